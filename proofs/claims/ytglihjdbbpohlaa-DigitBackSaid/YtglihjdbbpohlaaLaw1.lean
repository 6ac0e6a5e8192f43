/- The walks of the statements of layer 1 (digit). -/
import Derived.Test.YtglihjdbbpohlaaRel
import Derived.Test.YtglihjdbbpohlaaMil2
import Derived.Test.YtglihjdbbpohlaaMil4
import Derived.Test.YtglihjdbbpohlaaPlB
namespace Go.Proofs.Ytglihjdbbpohlaa.W
open Go.RowKit Go.Proofs.Ytglihjdbbpohlaa.Pl

theorem milP1 : milV [49, 46, 50, 53] = 1250 ∧ milE [49, 46, 50, 53] = 0 := by decide
theorem milP2 : milV [49, 46, 53, 48] = 0 ∧ milE [49, 46, 53, 48] = 3 := by decide
theorem txtP3 : txt (-120) = [45, 49, 50, 48] := by decide

theorem kAwake1 (w : World) : Calls Try.prog 19 #[] w fun e w' => e = .returned (.bool true) ∧ Below w.heap.size w w' := by
  have hb0 := Below.refl w.heap.size w
  have hB0 : w.heap.size ≤ w.heap.size := Nat.le_refl _
  have c1 := fun w1 => kMilli ⟨#[49, 46, 50, 53]⟩ w1 (by decide)
  have c2 := fun w1 => kMilli ⟨#[49, 46, 53, 48]⟩ w1 (by decide)
  have c3 := fun w1 => kText (-120) w1 (by decide) (by decide)
  simp only [milP1.1, milP1.2, milP2.1, milP2.2, txtP3] at c1 c2 c3
  have C1 := Lib.hid c1
  have C2 := Lib.hid c2
  have C3 := Lib.hid c3
  clear c1 c2 c3
  go_enter Try.func19, Try.ntmps19
  go_wp2_with fail
  refine (rlD (by assumption) (by assumption) (C1.out _)).mono ?_
  rintro e w1 ⟨rfl, hb1, hB1⟩
  go_wp2_with fail
  refine (rlD (by assumption) (by assumption) (C2.out _)).mono ?_
  rintro e w2 ⟨rfl, hb2, hB2⟩
  go_wp2_with fail
  refine (rl (by assumption) (by assumption) (C3.out _)).mono ?_
  rintro e w3 ⟨rfl, hb3, hB3⟩
  have hq : ((bs [45, 49, 50, 48]).toList == [45, 49, 50, 48]) = true := by rw [bs_toList]; rfl
  go_wp2_with fail
  go_ret
  exact ⟨rfl, by assumption⟩

theorem kDigitTexts (n : Int) (w : World) (h1 : -9223372036854775808 ≤ n) (h2 : n ≤ 9223372036854775807) :
    Calls Try.prog 8 #[.int .i64 n] w fun e w' => e = .returned (.bool true) ∧ Below w.heap.size w w' := by
  have hb0 := Below.refl w.heap.size w
  have hB0 : w.heap.size ≤ w.heap.size := Nat.le_refl _
  have q1 : ((bs (txt n)).toList == (bs (txt n)).toList) = true := beq_self_eq_true _
  have q2 : ((bs (mtxt n)).toList == (bs (mtxt n)).toList) = true := beq_self_eq_true _
  go_enter Try.func8, Try.ntmps8
  go_wp2_with fail
  refine (rl (by assumption) (by assumption) (kText n _ h1 h2)).mono ?_
  rintro e w1 ⟨rfl, hb1, hB1⟩
  go_wp2_with fail
  refine (rl (by assumption) (by assumption) (kRefText n _ h1 h2)).mono ?_
  rintro e w2 ⟨rfl, hb2, hB2⟩
  go_wp2_with fail
  refine (rl (by assumption) (by assumption) (kMilliText n _ h2)).mono ?_
  rintro e w3 ⟨rfl, hb3, hB3⟩
  go_wp2_with fail
  refine (rl (by assumption) (by assumption) (kRefMilliText n _ h2)).mono ?_
  rintro e w4 ⟨rfl, hb4, hB4⟩
  go_wp2_with fail
  refine (rl (by assumption) (by assumption) (kAwake1 _)).mono ?_
  rintro e w5 ⟨rfl, hb5, hB5⟩
  go_wp2_with fail
  go_ret
  exact ⟨rfl, by assumption⟩

theorem kDigitReads (s : ByteArray) (most : Int) (w : World) (hs : s.size ≤ maxLen) (_h1 : -9223372036854775808 ≤ most) (h2 : most ≤ 9223372036854775807) :
    Calls Try.prog 5 #[.string s, .int .i64 most] w fun e w' => e = .returned (.bool true) ∧ Below w.heap.size w w' := by
  unfold maxLen at hs
  have hb0 := Below.refl w.heap.size w
  have hB0 : w.heap.size ≤ w.heap.size := Nat.le_refl _
  by_cases h : s.size ≤ 4000
  · have K1 := Lib.hid (fun w1 => kParse s w1 (by omega))
    have K2 := Lib.hid (fun w1 => kCount s most w1 (by omega) h2)
    have K3 := Lib.hid (fun w1 => kMilli s w1 (by omega))
    have K4 := Lib.hid (fun w1 => kRefParse s w1 (by omega))
    have K5 := Lib.hid (fun w1 => kRefCount s most w1 (by omega) h2)
    have K6 := Lib.hid (fun w1 => kRefMilli s w1 (by omega))
    generalize prsV s.data.toList = v1 at *
    generalize prsE s.data.toList = x1 at *
    generalize cntV s.data.toList most = v2 at *
    generalize cntE s.data.toList most = x2 at *
    generalize milV s.data.toList = v3 at *
    generalize milE s.data.toList = x3 at *
    have q1 : (v1 == v1) = true := beqT rfl
    have q2 : (x1 == x1) = true := beqT rfl
    have q3 : (v2 == v2) = true := beqT rfl
    have q4 : (x2 == x2) = true := beqT rfl
    have q5 : (v3 == v3) = true := beqT rfl
    have q6 : (x3 == x3) = true := beqT rfl
    go_enter Try.func5, Try.ntmps5
    go_wp2_with fail
    refine (K1.out _).mono ?_
    rintro e w1 ⟨rfl, rfl⟩
    go_wp2_with fail
    refine (K2.out _).mono ?_
    rintro e w1 ⟨rfl, rfl⟩
    go_wp2_with fail
    refine (rlD (by assumption) (by assumption) (K3.out _)).mono ?_
    rintro e w1 ⟨rfl, hb1, hB1⟩
    go_wp2_with fail
    refine (K4.out _).mono ?_
    rintro e w2 ⟨rfl, rfl⟩
    go_wp2_with fail
    refine (K5.out _).mono ?_
    rintro e w2 ⟨rfl, rfl⟩
    go_wp2_with fail
    refine (K6.out _).mono ?_
    rintro e w2 ⟨rfl, rfl⟩
    go_wp2_with fail
    refine (rl (by assumption) (by assumption) (kAwake1 _)).mono ?_
    rintro e w5 ⟨rfl, hb5, hB5⟩
    go_wp2_with fail
    go_ret
    exact ⟨rfl, by assumption⟩
  · go_enter Try.func5, Try.ntmps5
    go_wp2_with fail
    refine (rl (by assumption) (by assumption) (kAwake1 _)).mono ?_
    rintro e w3 ⟨rfl, hb3, hB3⟩
    go_wp2_with fail
    go_ret
    exact ⟨rfl, by assumption⟩
end Go.Proofs.Ytglihjdbbpohlaa.W
