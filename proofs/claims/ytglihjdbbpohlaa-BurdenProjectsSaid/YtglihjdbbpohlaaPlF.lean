/- Plain laws on floats that stand for whole numbers; no program in sight. -/
import Derived.Laws.ComplexArith
import Derived.Laws.Cover3
namespace Go.Proofs.Ytglihjdbbpohlaa.Pl
open Ieee

theorem fl_eq (n : Int) : floatOfInt .f64 n = double.nearest (decide (n < 0)) n.natAbs 0 := rfl
theorem fl_zero : floatOfInt .f64 0 = 0 := by decide +kernel

theorem db : double.binade = 4503599627370496 := by decide +kernel
theorem dlp : double.leastPlace = -1074 := by decide +kernel
theorem dir : double.infRung = 9218868437227405312 := by decide +kernel
theorem dsw : double.signWeight = 9223372036854775808 := by decide +kernel
theorem dfb : double.fractionBits = 52 := rfl

theorem log2_scale {m : Nat} (h : m ≠ 0) (k : Nat) : (m * 2 ^ k).log2 = m.log2 + k := by
  have hp : 0 < 2 ^ k := Nat.two_pow_pos k
  have h0 : m * 2 ^ k ≠ 0 := Nat.mul_ne_zero h (by omega)
  rw [Nat.log2_eq_iff h0]
  have h1 := (Nat.log2_eq_iff h).1 rfl
  refine ⟨?_, ?_⟩
  · rw [Nat.pow_add]; exact Nat.mul_le_mul_right _ h1.1
  · rw [show m.log2 + k + 1 = (m.log2 + 1) + k by omega, Nat.pow_add]; exact Nat.mul_lt_mul_of_pos_right h1.2 hp

theorem cut_exact (way : Toward) (hw : way = .even ∨ way = .zero) (neg : Bool) (a d : Nat) : way.cut neg (a * 2 ^ d) d = a := by
  unfold Toward.cut
  by_cases h : a = 0
  · subst h
    have : 0 < 1 <<< min d ((0 * 2 ^ d).log2 + 2) := by rw [Nat.shiftLeft_eq]; have := Nat.two_pow_pos (min d ((0 * 2 ^ d).log2 + 2)); omega
    generalize 1 <<< min d ((0 * 2 ^ d).log2 + 2) = g at *
    rcases hw with rfl | rfl
    · simp
    · simp
  · have hm : min d ((a * 2 ^ d).log2 + 2) = d := by rw [log2_scale h]; omega
    rw [hm, Nat.shiftLeft_eq, Nat.one_mul]
    have hp : 0 < 2 ^ d := Nat.two_pow_pos d
    generalize 2 ^ d = g at *
    have g0 : g ≠ 0 := by omega
    have h1 : a * g / g = a := Nat.mul_div_cancel _ hp
    have h2 : a * g % g = 0 := Nat.mul_mod_left _ _
    simp only [h1, h2]
    rcases hw with rfl | rfl
    · simp [g0]
    · simp

theorem log2_le52 {m : Nat} (h : m ≠ 0) (hm : m < 9007199254740992) : m.log2 ≤ 52 := by
  have := (Nat.log2_lt h (k := 53)).2 (by simpa using hm)
  omega
/-- what is kept of a whole number -/
theorem keep_bd {m : Nat} (h : m ≠ 0) (hm : m < 9007199254740992) : 4503599627370496 ≤ m * 2 ^ (52 - m.log2) ∧ m * 2 ^ (52 - m.log2) < 9007199254740992 := by
  have hl := log2_le52 h hm
  have h1 := (Nat.log2_eq_iff h).1 rfl
  have e1 : 2 ^ m.log2 * 2 ^ (52 - m.log2) = 4503599627370496 := by rw [← Nat.pow_add, show m.log2 + (52 - m.log2) = 52 by omega]
  have e2 : 2 ^ (m.log2 + 1) * 2 ^ (52 - m.log2) = 9007199254740992 := by rw [← Nat.pow_add, show m.log2 + 1 + (52 - m.log2) = 53 by omega]
  refine ⟨?_, ?_⟩
  · rw [← e1]; exact Nat.mul_le_mul_right _ h1.1
  · rw [← e2]; exact Nat.mul_lt_mul_of_pos_right h1.2 (Nat.two_pow_pos _)
theorem nearest_whole (s : Bool) {m : Nat} (h : m ≠ 0) (hm : m < 9007199254740992) (k : Nat) :
    double.nearest s (m * 2 ^ k) (-(k : Int)) = double.word s ((m.log2 + 1022) * 4503599627370496 + m * 2 ^ (52 - m.log2)) := by
  have hl := log2_le52 h hm
  have hb := keep_bd h hm
  have hp : 0 < 2 ^ k := Nat.two_pow_pos k
  have h0 : m * 2 ^ k ≠ 0 := Nat.mul_ne_zero h (by omega)
  unfold Format.nearest
  rw [if_neg h0, log2_scale h, dlp, db, dir, dfb]
  have hlast : max (-(k : Int) + ((m.log2 + k : Nat) : Int) - ((52 : Nat) : Int)) (-1074) = (m.log2 : Int) - 52 := by omega
  simp only [hlast]
  have hkept : Toward.even.cut s ((m * 2 ^ k) <<< (-(k : Int) - ((m.log2 : Int) - 52)).toNat) (((m.log2 : Int) - 52) - -(k : Int)).toNat = m * 2 ^ (52 - m.log2) := by
    rw [Nat.shiftLeft_eq]
    by_cases hk : k ≤ 52 - m.log2
    · rw [show (-(k : Int) - ((m.log2 : Int) - 52)).toNat = 52 - m.log2 - k by omega, show (((m.log2 : Int) - 52) - -(k : Int)).toNat = 0 by omega]
      have := cut_exact .even (.inl rfl) s (m * 2 ^ (52 - m.log2)) 0
      rw [Nat.pow_zero, Nat.mul_one] at this
      rw [Nat.mul_assoc, ← Nat.pow_add, show k + (52 - m.log2 - k) = 52 - m.log2 by omega]
      exact this
    · rw [show (-(k : Int) - ((m.log2 : Int) - 52)).toNat = 0 by omega, Nat.pow_zero, Nat.mul_one]
      obtain ⟨d, hd⟩ : ∃ d, k = (52 - m.log2) + d := ⟨k - (52 - m.log2), by omega⟩
      rw [show (((m.log2 : Int) - 52) - -(k : Int)).toNat = d by omega, hd, Nat.pow_add, ← Nat.mul_assoc]
      exact cut_exact .even (.inl rfl) s _ d
  rw [hkept]
  congr 1
  rw [show ((m.log2 : Int) - 52 - -1074).toNat = m.log2 + 1022 by omega]
  omega
theorem nearest_scale (s : Bool) {m : Nat} (hm : m < 9007199254740992) (k : Nat) : double.nearest s (m * 2 ^ k) (-(k : Int)) = double.nearest s m 0 := by
  by_cases h : m = 0
  · subst h
    unfold Format.nearest
    rw [if_pos (by simp), if_pos rfl]
  · rw [nearest_whole s h hm k]
    have := nearest_whole s h hm 0
    rw [Nat.pow_zero, Nat.mul_one] at this
    exact this.symm
theorem read_word (s : Bool) {r : Nat} (h1 : 4503599627370496 ≤ r) (h2 : r < 9218868437227405312) :
    double.read (double.word s r) = .number s (4503599627370496 + r % 4503599627370496) (-1074 + ((r / 4503599627370496 - 1 : Nat) : Int)) := by
  unfold Format.read Format.word
  rw [db, dlp, dir, dsw]
  cases s
  · simp only [Bool.false_eq_true, if_false]
    rw [show r % 9223372036854775808 = r by omega, show r / 9223372036854775808 = 0 by omega, if_neg (by omega), if_pos h2]
    rfl
  · simp only [if_true]
    rw [show (9223372036854775808 + r) % 9223372036854775808 = r by omega, show (9223372036854775808 + r) / 9223372036854775808 = 1 by omega, if_neg (by omega), if_pos h2]
    rfl
theorem read_fl {n : Int} (h1 : -9007199254740992 < n) (h2 : n < 9007199254740992) :
    ∃ k : Nat, k ≤ 1074 ∧ double.read (floatOfInt .f64 n) = .number (decide (n < 0)) (n.natAbs * 2 ^ k) (-(k : Int)) := by
  by_cases h : n = 0
  · subst h
    exact ⟨1074, Nat.le_refl _, by rw [fl_zero]; decide +kernel⟩
  · have hm : n.natAbs < 9007199254740992 := by omega
    have h0 : n.natAbs ≠ 0 := by omega
    have hw := nearest_whole (decide (n < 0)) h0 hm 0
    rw [Nat.pow_zero, Nat.mul_one] at hw
    have hl := log2_le52 h0 hm
    have hb := keep_bd h0 hm
    refine ⟨52 - n.natAbs.log2, by omega, ?_⟩
    rw [fl_eq, show double.nearest (decide (n < 0)) n.natAbs 0 = _ from hw]
    generalize n.natAbs * 2 ^ (52 - n.natAbs.log2) = q at *
    generalize n.natAbs.log2 = L at *
    rw [read_word _ (by omega) (by omega)]
    rw [show 4503599627370496 + ((L + 1022) * 4503599627370496 + q) % 4503599627370496 = q by omega, show ((L + 1022) * 4503599627370496 + q) / 4503599627370496 - 1 = L + 1022 by omega, show -1074 + ((L + 1022 : Nat) : Int) = -((52 - L : Nat) : Int) by omega]

theorem pow_split {k K : Nat} (h : k ≤ K) : 2 ^ k * 2 ^ (K - k) = 2 ^ K := by rw [← Nat.pow_add, show k + (K - k) = K by omega]
theorem signed_rep (n : Int) {k K : Nat} (h : k ≤ K) : signed (decide (n < 0)) (n.natAbs * 2 ^ k) (K - k) = n * ((2 ^ K : Nat) : Int) := by
  unfold signed
  rw [Nat.shiftLeft_eq, Nat.mul_assoc, pow_split h]
  by_cases hn : n < 0
  · simp only [hn, decide_true, if_true]
    rw [Int.natCast_mul, show ((n.natAbs : Nat) : Int) = -n by omega, Int.neg_mul, Int.neg_neg]
  · simp only [hn, decide_false, Bool.false_eq_true, if_false]
    rw [Int.natCast_mul, show ((n.natAbs : Nat) : Int) = n by omega]
theorem signed_opp (n : Int) {k K : Nat} (h : k ≤ K) : signed (!decide (n < 0)) (n.natAbs * 2 ^ k) (K - k) = (-n) * ((2 ^ K : Nat) : Int) := by
  unfold signed
  rw [Nat.shiftLeft_eq, Nat.mul_assoc, pow_split h]
  by_cases hn : n < 0
  · simp only [hn, decide_true, Bool.not_true, Bool.false_eq_true, if_false]
    rw [Int.natCast_mul, show ((n.natAbs : Nat) : Int) = -n by omega]
  · simp only [hn, decide_false, Bool.not_false, if_true]
    rw [Int.natCast_mul, show ((n.natAbs : Nat) : Int) = n by omega, Int.neg_mul]
theorem base_of (i j : Nat) : min (-(i : Int)) (-(j : Int)) = -((max i j : Nat) : Int) := by omega
theorem up_of {i K : Nat} (h : i ≤ K) : (-(i : Int) - -((K : Nat) : Int)).toNat = K - i := by omega

theorem compare_scale (a b : Int) (p : Nat) (hp : 0 < p) : compare (a * (p : Int)) (b * (p : Int)) = compare a b := by
  have hp' : (0 : Int) < (p : Int) := by omega
  have h1 : a * (p : Int) < b * (p : Int) ↔ a < b := Int.mul_lt_mul_right hp'
  have h2 : a * (p : Int) = b * (p : Int) ↔ a = b := ⟨fun h => Int.eq_of_mul_eq_mul_right (by omega) h, fun h => by rw [h]⟩
  show compareOfLessAndEq _ _ = compareOfLessAndEq _ _
  unfold compareOfLessAndEq
  simp only [h1, h2]
theorem order_fl {a b : Int} (a1 : -9007199254740992 < a) (a2 : a < 9007199254740992) (b1 : -9007199254740992 < b) (b2 : b < 9007199254740992) :
    double.order (floatOfInt .f64 a) (floatOfInt .f64 b) = some (compare a b) := by
  obtain ⟨i, _, hi⟩ := read_fl a1 a2
  obtain ⟨j, _, hj⟩ := read_fl b1 b2
  unfold Format.order
  rw [hi, hj]
  unfold Datum.order
  simp only [base_of, up_of (Nat.le_max_left i j), up_of (Nat.le_max_right i j), signed_rep a (Nat.le_max_left i j), signed_rep b (Nat.le_max_right i j)]
  rw [compare_scale a b _ (Nat.two_pow_pos _)]
theorem cmp_eq (a b : Int) : (some (compare a b) == some Ordering.eq) = decide (a = b) := by
  show (some (compareOfLessAndEq a b) == _) = _
  unfold compareOfLessAndEq
  by_cases h : a < b
  · have : ¬ a = b := by omega
    simp [h, this]
  · by_cases h2 : a = b
    · simp [h2]
    · simp [h, h2]
theorem cmp_lt (a b : Int) : (some (compare a b) == some Ordering.lt) = decide (a < b) := by
  show (some (compareOfLessAndEq a b) == _) = _
  unfold compareOfLessAndEq
  by_cases h : a < b
  · simp [h]
  · by_cases h2 : a = b
    · simp [h2]
    · simp [h, h2]
theorem cmp_gt (a b : Int) : (some (compare a b) == some Ordering.gt) = decide (b < a) := by
  show (some (compareOfLessAndEq a b) == _) = _
  unfold compareOfLessAndEq
  by_cases h : a < b
  · have : ¬ b < a := by omega
    simp [h, this]
  · by_cases h2 : a = b
    · simp [h2]
    · have : b < a := by omega
      simp [h, h2, this]
/-- 2^53 -/
theorem read_top : double.read 4845873199050653696 = .number false 4503599627370496 1 := by decide +kernel
theorem order_top {a : Int} (a1 : -9007199254740992 < a) (a2 : a < 9007199254740992) : double.order (floatOfInt .f64 a) 4845873199050653696 = some .lt := by
  obtain ⟨i, _, hi⟩ := read_fl a1 a2
  unfold Format.order
  rw [hi, read_top]
  unfold Datum.order
  have hb : min (-(i : Int)) 1 = -(i : Int) := by omega
  simp only [hb]
  have h0 : (-(i : Int) - -(i : Int)).toNat = i - i := by omega
  have h1 : (1 - -(i : Int)).toNat = 1 + i := by omega
  rw [h0, h1, signed_rep a (Nat.le_refl i)]
  have h2 : signed false 4503599627370496 (1 + i) = 9007199254740992 * ((2 ^ i : Nat) : Int) := by
    unfold signed
    rw [Nat.shiftLeft_eq, Nat.pow_add]
    simp only [Bool.false_eq_true, if_false]
    rw [← Nat.mul_assoc, Int.natCast_mul]
    rfl
  rw [h2, compare_scale a _ _ (Nat.two_pow_pos _)]
  show some (compareOfLessAndEq a _) = _
  unfold compareOfLessAndEq
  rw [if_pos a2]

theorem natAbs_scale (n : Int) (p : Nat) : (n * (p : Int)).natAbs = n.natAbs * p := by rw [Int.natAbs_mul]; rfl
theorem scale_zero (n : Int) (p : Nat) (hp : 0 < p) : n * (p : Int) = 0 ↔ n = 0 := by
  rw [Int.mul_eq_zero]; omega
theorem scale_neg (n : Int) (p : Nat) (hp : 0 < p) : n * (p : Int) < 0 ↔ n < 0 := by
  have hp' : (0 : Int) < (p : Int) := by omega
  refine ⟨fun h => ?_, fun h => Int.mul_neg_of_neg_of_pos h hp'⟩
  by_cases hn : n < 0
  · exact hn
  · exact absurd (Int.mul_nonneg (by omega : 0 ≤ n) (by omega : 0 ≤ (p : Int))) (by omega)
theorem write_rep {n : Int} {t : Bool} (h1 : -9007199254740992 < n) (h2 : n < 9007199254740992) (K : Nat) (ht : n = 0 → t = false) :
    double.write (.number (if n * ((2 ^ K : Nat) : Int) = 0 then t else decide (n * ((2 ^ K : Nat) : Int) < 0)) (n * ((2 ^ K : Nat) : Int)).natAbs (-(K : Int))) = floatOfInt .f64 n := by
  have hp : 0 < 2 ^ K := Nat.two_pow_pos K
  show double.nearest _ _ _ = _
  rw [natAbs_scale, nearest_scale _ (by omega), fl_eq]
  congr 1
  by_cases h : n = 0
  · rw [if_pos ((scale_zero n _ hp).2 h), ht h, h]; rfl
  · rw [if_neg (fun e => h ((scale_zero n _ hp).1 e))]
    exact decide_eq_decide.2 (scale_neg n _ hp)
theorem add_fl {a b : Int} (a1 : -9007199254740992 < a) (a2 : a < 9007199254740992) (b1 : -9007199254740992 < b) (b2 : b < 9007199254740992) (c1 : -9007199254740992 < a + b) (c2 : a + b < 9007199254740992) :
    floatBits .add .f64 (floatOfInt .f64 a) (floatOfInt .f64 b) = some (floatOfInt .f64 (a + b)) := by
  obtain ⟨i, _, hi⟩ := read_fl a1 a2
  obtain ⟨j, _, hj⟩ := read_fl b1 b2
  show double.add _ _ = _
  unfold Format.add
  rw [hi, hj]
  unfold Datum.sum
  simp only [base_of, up_of (Nat.le_max_left i j), up_of (Nat.le_max_right i j), signed_rep a (Nat.le_max_left i j), signed_rep b (Nat.le_max_right i j), ← Int.add_mul]
  rw [Option.map_some]
  congr 1
  exact write_rep c1 c2 _ fun h => by
    by_cases ha : a < 0
    · have : ¬ b < 0 := by omega
      simp [this]
    · simp [ha]
theorem sub_fl {a b : Int} (a1 : -9007199254740992 < a) (a2 : a < 9007199254740992) (b1 : -9007199254740992 < b) (b2 : b < 9007199254740992) (c1 : -9007199254740992 < a - b) (c2 : a - b < 9007199254740992) :
    floatBits .sub .f64 (floatOfInt .f64 a) (floatOfInt .f64 b) = some (floatOfInt .f64 (a - b)) := by
  obtain ⟨i, _, hi⟩ := read_fl a1 a2
  obtain ⟨j, _, hj⟩ := read_fl b1 b2
  show double.sub _ _ = _
  unfold Format.sub
  rw [hi, hj]
  unfold Datum.sum Datum.opposite
  simp only [base_of, up_of (Nat.le_max_left i j), up_of (Nat.le_max_right i j), signed_rep a (Nat.le_max_left i j), signed_opp b (Nat.le_max_right i j), ← Int.add_mul]
  rw [Option.map_some]
  congr 1
  exact write_rep (n := a + -b) (by omega) (by omega) _ fun h => by
    by_cases ha : a < 0
    · have : b < 0 := by omega
      simp [this]
    · simp [ha]
theorem int_fl {n : Int} (h1 : -9007199254740992 < n) (h2 : n < 9007199254740992) : floatToIntVal .f64 (floatOfInt .f64 n) .i64 = some n := by
  obtain ⟨k, _, hk⟩ := read_fl h1 h2
  unfold floatToIntVal
  have : (FloatKind.f64.decode (floatOfInt .f64 n)).toInt .zero = some n := by
    show (double.read (floatOfInt .f64 n)).toInt .zero = some n
    rw [hk]
    unfold Datum.toInt Datum.integral
    simp only
    rw [show (-(k : Int)).toNat = 0 by omega, show (- -(k : Int)).toNat = k by omega, Nat.shiftLeft_zero, cut_exact .zero (.inr rfl)]
    have := signed_rep n (k := 0) (K := 0) (Nat.le_refl _)
    simp only [Nat.pow_zero, Nat.mul_one, Nat.sub_self] at this
    rw [this]
    simp
  rw [this]
  simp only
  rw [if_pos ⟨by show (-9223372036854775808 : Int) ≤ n; omega, by show n ≤ (9223372036854775807 : Int); omega⟩]
/-- orders, as the walk asks for them -/
theorem ordLt {a b : Int} (a1 : -9007199254740992 < a) (a2 : a < 9007199254740992) (b1 : -9007199254740992 < b) (b2 : b < 9007199254740992) (h : a < b) :
    FloatKind.f64.format.order (floatOfInt .f64 a) (floatOfInt .f64 b) = some .lt := by
  refine (order_fl a1 a2 b1 b2).trans ?_
  show some (compareOfLessAndEq a b) = _
  unfold compareOfLessAndEq
  rw [if_pos h]
theorem ordEq {a b : Int} (a1 : -9007199254740992 < a) (a2 : a < 9007199254740992) (h : a = b) :
    FloatKind.f64.format.order (floatOfInt .f64 a) (floatOfInt .f64 b) = some .eq := by
  subst h
  refine (order_fl a1 a2 a1 a2).trans ?_
  show some (compareOfLessAndEq a a) = _
  unfold compareOfLessAndEq
  rw [if_neg (by omega), if_pos rfl]
theorem ordGt {a b : Int} (a1 : -9007199254740992 < a) (a2 : a < 9007199254740992) (b1 : -9007199254740992 < b) (b2 : b < 9007199254740992) (h : b < a) :
    FloatKind.f64.format.order (floatOfInt .f64 a) (floatOfInt .f64 b) = some .gt := by
  refine (order_fl a1 a2 b1 b2).trans ?_
  show some (compareOfLessAndEq a b) = _
  unfold compareOfLessAndEq
  rw [if_neg (by omega), if_neg (by omega)]
theorem ordTop {a : Int} (a1 : -9007199254740992 < a) (a2 : a < 9007199254740992) : FloatKind.f64.format.order (floatOfInt .f64 a) 4845873199050653696 = some .lt := order_top a1 a2
theorem ordZ_gt {a : Int} (a2 : a < 9007199254740992) (h : 0 < a) : FloatKind.f64.format.order (floatOfInt .f64 a) 0 = some .gt := by
  have := ordGt (a := a) (b := 0) (by omega) a2 (by omega) (by omega) h
  rwa [fl_zero] at this
theorem ordZ_eq : FloatKind.f64.format.order (floatOfInt .f64 0) 0 = some .eq := by
  have := ordEq (a := 0) (b := 0) (by omega) (by omega) rfl
  rwa [fl_zero] at this
theorem ordZ_lt {a : Int} (a1 : -9007199254740992 < a) (h : a < 0) : FloatKind.f64.format.order (floatOfInt .f64 a) 0 = some .lt := by
  have := ordLt (a := a) (b := 0) a1 (by omega) (by omega) (by omega) h
  rwa [fl_zero] at this
theorem ordZ_cases {u : Int} (u1 : -9007199254740992 < u) (u2 : u < 9007199254740992) :
    (FloatKind.f64.format.order (floatOfInt .f64 u) 0 = some .gt ∧ floatOfInt .f64 u = floatOfInt .f64 (max u 0)) ∨
    (FloatKind.f64.format.order (floatOfInt .f64 u) 0 = some .eq ∧ 0 = floatOfInt .f64 (max u 0)) ∨ (FloatKind.f64.format.order (floatOfInt .f64 u) 0 = some .lt ∧ 0 = floatOfInt .f64 (max u 0)) := by
  rcases (show u < 0 ∨ u = 0 ∨ 0 < u by omega) with h | h | h
  · exact .inr (.inr ⟨ordZ_lt u1 h, by rw [show max u 0 = 0 by omega, fl_zero]⟩)
  · exact .inr (.inl ⟨by rw [h]; exact ordZ_eq, by rw [show max u 0 = 0 by omega, fl_zero]⟩)
  · exact .inl ⟨ordZ_gt u2 h, by rw [show max u 0 = u by omega]⟩
theorem cadd_fl {a b c d : Int} (a1 : -4503599627370496 < a) (a2 : a < 4503599627370496) (b1 : -4503599627370496 < b) (b2 : b < 4503599627370496) (c1 : -4503599627370496 < c) (c2 : c < 4503599627370496) (d1 : -4503599627370496 < d) (d2 : d < 4503599627370496) :
    cSumBits .add .f64 (floatOfInt .f64 a) (floatOfInt .f64 b) (floatOfInt .f64 c) (floatOfInt .f64 d) = some (floatOfInt .f64 (a + c), floatOfInt .f64 (b + d)) := by
  unfold cSumBits
  rw [add_fl (by omega) (by omega) (by omega) (by omega) (by omega) (by omega), add_fl (by omega) (by omega) (by omega) (by omega) (by omega) (by omega)]
  rfl
theorem csub_fl {a b c d : Int} (a1 : -4503599627370496 < a) (a2 : a < 4503599627370496) (b1 : -4503599627370496 < b) (b2 : b < 4503599627370496) (c1 : -4503599627370496 < c) (c2 : c < 4503599627370496) (d1 : -4503599627370496 < d) (d2 : d < 4503599627370496) :
    cSumBits .sub .f64 (floatOfInt .f64 a) (floatOfInt .f64 b) (floatOfInt .f64 c) (floatOfInt .f64 d) = some (floatOfInt .f64 (a - c), floatOfInt .f64 (b - d)) := by
  unfold cSumBits
  rw [sub_fl (by omega) (by omega) (by omega) (by omega) (by omega) (by omega), sub_fl (by omega) (by omega) (by omega) (by omega) (by omega) (by omega)]
  rfl
end Go.Proofs.Ytglihjdbbpohlaa.Pl
