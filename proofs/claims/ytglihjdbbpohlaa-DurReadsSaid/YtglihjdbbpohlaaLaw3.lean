/- The walk of DurReckons. -/
import Derived.Test.YtglihjdbbpohlaaRel
import Derived.Test.YtglihjdbbpohlaaDur2
import Derived.Test.YtglihjdbbpohlaaDur4
import Derived.Test.YtglihjdbbpohlaaDur5
namespace Go.Proofs.Ytglihjdbbpohlaa.W
open Go.RowKit Go.Proofs.Ytglihjdbbpohlaa.Pl

theorem durP1 : durV [49, 109, 51, 48, 115] = 90000 ∧ durE [49, 109, 51, 48, 115] = 0 := by decide
theorem durP2 : durV [49, 115, 49, 109] = 0 ∧ durE [49, 115, 49, 109] = 3 := by decide
theorem durP3 : durT 90000 = [49, 109, 51, 48, 115] := by decide

theorem kAwake3 (w : World) : Calls Try.prog 49 #[] w fun e w' => e = .returned (.bool true) ∧ Below w.heap.size w w' := by
  have hb0 := Below.refl w.heap.size w
  have hB0 : w.heap.size ≤ w.heap.size := Nat.le_refl _
  have c1 := fun w1 => kDurParse ⟨#[49, 109, 51, 48, 115]⟩ w1 (by decide)
  have c2 := fun w1 => kDurParse ⟨#[49, 115, 49, 109]⟩ w1 (by decide)
  have c3 := fun w1 => kDurText 90000 w1
  simp only [durP1.1, durP1.2, durP2.1, durP2.2, durP3] at c1 c2 c3
  have C1 := Lib.hid c1
  have C2 := Lib.hid c2
  have C3 := Lib.hid c3
  clear c1 c2 c3
  have hq : ((bs [49, 109, 51, 48, 115]).toList == [49, 109, 51, 48, 115]) = true := by rw [bs_toList]; rfl
  go_enter Try.func49, Try.ntmps49
  go_wp2_with fail
  refine (C1.out _).mono ?_
  rintro e w1 ⟨rfl, rfl⟩
  go_wp2_with fail
  refine (C2.out _).mono ?_
  rintro e w1 ⟨rfl, rfl⟩
  go_wp2_with fail
  refine (rl (by assumption) (by assumption) (C3.out _)).mono ?_
  rintro e w3 ⟨rfl, hb3, hB3⟩
  go_wp2_with fail
  go_ret
  exact ⟨rfl, by assumption⟩

theorem kDurReckons (a b : Int) (w : World) :
    Calls Try.prog 14 #[.int .i64 a, .int .i64 b] w fun e w' => e = .returned (.bool true) ∧ Below w.heap.size w w' := by
  have hb0 := Below.refl w.heap.size w
  have hB0 : w.heap.size ≤ w.heap.size := Nat.le_refl _
  have q1 : ((bs (durT a)).toList == (bs (durT a)).toList) = true := beq_self_eq_true _
  have ha := nearM_bd a
  have hb := nearM_bd b
  obtain ⟨ha1, ha2⟩ := ha
  obtain ⟨hb1, hb2⟩ := hb
  have K1 := Lib.hid (fun w1 => kRefNear a w1)
  have K2 := Lib.hid (fun w1 => kRefNear b w1)
  have K3 := Lib.hid (fun w1 => kAdd a b w1)
  have K4 := Lib.hid (fun w1 => kTimes a b w1)
  have K5 := Lib.hid (fun w1 => kRefTimes a b w1)
  generalize nearM a = x at *
  generalize nearM b = y at *
  generalize timesM a b = t at *
  have K6 := Lib.hid (fun w1 => kRefNear (x + y) w1)
  generalize nearM (x + y) = u at *
  have q2 : (t == t) = true := beqT rfl
  have q3 : (u == u) = true := beqT rfl
  have K7 := Lib.hid (fun w1 => kLeast a b w1)
  have K8 := Lib.hid (fun w1 => kMost a b w1)
  have hmm : (b < a ∧ (min a b == b) = true ∧ (max a b == a) = true) ∨ (¬ b < a ∧ (min a b == a) = true ∧ (max a b == b) = true) := by
    by_cases h : b < a
    · exact .inl ⟨h, beqT (by omega), beqT (by omega)⟩
    · exact .inr ⟨h, beqT (by omega), beqT (by omega)⟩
  generalize min a b = mn at *
  generalize max a b = mx at *
  rcases hmm with ⟨h0, h1, h2⟩ | ⟨h0, h1, h2⟩
  all_goals
    go_enter Try.func14, Try.ntmps14
    go_wp2_with fail
    refine (rl (by assumption) (by assumption) (kDurText a _)).mono ?_
    rintro e w1 ⟨rfl, hc1, hB1⟩
    go_wp2_with fail
    refine (rl (by assumption) (by assumption) (kRefDurText a _)).mono ?_
    rintro e w2 ⟨rfl, hc2, hB2⟩
    go_wp2_with fail
    refine (K7.out _).mono ?_
    rintro e w3 ⟨rfl, rfl⟩
    go_wp2_with fail
    refine (K8.out _).mono ?_
    rintro e w3 ⟨rfl, rfl⟩
    go_wp2_with fail
    refine (K3.out _).mono ?_
    rintro e w3 ⟨rfl, rfl⟩
    go_wp2_with fail
    refine (K1.out _).mono ?_
    rintro e w3 ⟨rfl, rfl⟩
    go_wp2_with fail
    refine (K2.out _).mono ?_
    rintro e w3 ⟨rfl, rfl⟩
    go_wp2_with fail
    refine (K6.out _).mono ?_
    rintro e w3 ⟨rfl, rfl⟩
    go_wp2_with fail
    refine (K4.out _).mono ?_
    rintro e w3 ⟨rfl, rfl⟩
    go_wp2_with fail
    refine (K5.out _).mono ?_
    rintro e w3 ⟨rfl, rfl⟩
    go_wp2_with fail
    refine (rl (by assumption) (by assumption) (kAwake3 _)).mono ?_
    rintro e w5 ⟨rfl, hc5, hB5⟩
    go_wp2_with fail
    go_ret
    exact ⟨rfl, by assumption⟩
end Go.Proofs.Ytglihjdbbpohlaa.W
