/- Contracts of the small functions of layer 28 (burden). -/
import Derived.Test.YtglihjdbbpohlaaMil2
import Derived.Test.YtglihjdbbpohlaaSiz4
import Derived.Test.YtglihjdbbpohlaaPlF
import Derived.Test.YtglihjdbbpohlaaPlU
import Derived.Test.YtglihjdbbpohlaaRel
import Derived.Test.YtglihjdbbpohlaaPlS2
import Derived.Deep.RegionWith
namespace Go.Proofs.Ytglihjdbbpohlaa.W
open Go.RowKit Go.Proofs.Ytglihjdbbpohlaa.Pl

theorem mtxtL {n : Int} (h2 : n ≤ 9223372036854775807) : (mtxt n).length ≤ 24 := by
  by_cases h : n < 0
  · rw [mtxt_neg h]; decide
  · obtain ⟨m, rfl⟩ : ∃ m : Nat, n = (m : Int) := ⟨n.toNat, by omega⟩
    rw [mtxt_nat, List.length_append]
    have := dec_len_le 20 (m / 1000) (by omega) (by decide)
    have : (frac (m % 1000)).length ≤ 4 := by
      rcases frac_cases (m % 1000) (by omega) with ⟨_, h⟩ | ⟨_, _, _, _, h⟩ | ⟨_, _, h⟩ | ⟨_, h⟩ <;> rw [h] <;> simp
    omega
theorem sztL (n : Int) : (szT n).length ≤ 21 := by
  by_cases h : n < 0 ∨ 1125899906842624 < n
  · rw [szT_out h]; decide
  · obtain ⟨m, rfl⟩ : ∃ m : Nat, n = (m : Int) := ⟨n.toNat, by omega⟩
    obtain ⟨q, u, hu, _, ht, _, hm⟩ := szT_parts (n := m) (by omega)
    rw [ht, List.length_append, sfx_len hu]
    have h1 : mostU u ≤ 1125899906842624 := by unfold mostU; split <;> (try split) <;> (try split) <;> omega
    have := dec_len_le 20 q (by omega) (by decide)
    split <;> omega
theorem ret_fl {a b : Int} (h : a = b) : Ending.returned (.float .f64 (floatOfInt .f64 a)) = .returned (.float .f64 (floatOfInt .f64 b)) := by rw [h]
theorem ret_ag2 {a b c d : Int} (h : a = b) (h2 : c = d) : Ending.returned (.agg #[.int .i64 a, .int .i64 c]) = .returned (.agg #[.int .i64 b, .int .i64 d]) := by rw [h, h2]
theorem ret_cx {a b c d : Nat} (h : a = b) (h2 : c = d) : Ending.returned (.complex .f64 a c) = .returned (.complex .f64 b d) := by rw [h, h2]
theorem kBNear (n : Int) (w : World) :
    Calls Try.prog 67 #[.int .i64 n] w fun e w' => e = .returned (.float .f64 (floatOfInt .f64 (nearM n))) ∧ w = w' := by
  by_cases h : n < 0
  · have HR := Lib.hid (nearM_neg h)
    have h1 : max n 0 = 0 := by omega
    have h2 : min (0 : Int) 1099511627776 = 0 := by omega
    go_enter Try.func67, Try.ntmps67
    go_wp2
    go_ret
    exact ⟨ret_fl HR.out.symm, rfl⟩
  · have h1 : max n 0 = n := by omega
    by_cases h3 : 1099511627776 < n
    · have HR := Lib.hid (nearM_big h3)
      have h2 : min n 1099511627776 = 1099511627776 := by omega
      go_enter Try.func67, Try.ntmps67
      go_wp2
      go_ret
      exact ⟨ret_fl HR.out.symm, rfl⟩
    · have HR := Lib.hid (nearM_in (n := n) (by omega) (by omega))
      have h2 : min n 1099511627776 = n := by omega
      go_enter Try.func67, Try.ntmps67
      go_wp2
      go_ret
      exact ⟨ret_fl HR.out.symm, rfl⟩

theorem kOf (c m : Int) (w : World) :
    Calls Try.prog 27 #[.int .i64 c, .int .i64 m] w fun e w' => e = .returned (.complex .f64 (floatOfInt .f64 (nearM c)) (floatOfInt .f64 (nearM m))) ∧ w = w' := by
  have K1 := Lib.hid (fun w1 => kBNear c w1)
  have K2 := Lib.hid (fun w1 => kBNear m w1)
  generalize nearM c = x at *
  generalize nearM m = y at *
  go_enter Try.func27, Try.ntmps27
  go_wp2_with fail
  refine (K1.out _).mono ?_
  rintro e w1 ⟨rfl, rfl⟩
  go_wp2_with fail
  refine (K2.out _).mono ?_
  rintro e w1 ⟨rfl, rfl⟩
  go_wp2_with fail
  go_ret
  exact ⟨rfl, rfl⟩

theorem kBWhole (n : Int) (w : World) (h0 : 0 ≤ n) (h1 : n < 9007199254740992) :
    Calls Try.prog 69 #[.float .f64 (floatOfInt .f64 n)] w fun e w' => e = .returned (.int .i64 n) ∧ w = w' := by
  have ht := ordTop (a := n) (by omega) h1
  have hi : ∀ w, (convert 81 3 (.float .f64 (floatOfInt .f64 n))).run Try.prog w = .ok (.int .i64 n) w := fun w => run_convert_float_int w 81 3 .f64 .i64 _ n (by rw [Try.underlying81]; rfl) Try.underlying3 (int_fl (by omega) h1)
  by_cases h : 0 < n
  · have hz := ordZ_gt h1 h
    go_enter Try.func69, Try.ntmps69
    go_wp2_with (simp only [hi])
    go_ret
    exact ⟨rfl, rfl⟩
  · obtain rfl : n = 0 := by omega
    have hz := ordZ_eq
    go_enter Try.func69, Try.ntmps69
    go_wp2
    go_ret
    exact ⟨rfl, rfl⟩

theorem kParts (c m : Int) (w : World) (c0 : 0 ≤ c) (c1 : c < 9007199254740992) (m0 : 0 ≤ m) (m1 : m < 9007199254740992) :
    Calls Try.prog 32 #[.complex .f64 (floatOfInt .f64 c) (floatOfInt .f64 m)] w fun e w' => e = .returned (.tuple #[.int .i64 c, .int .i64 m]) ∧ w = w' := by
  go_enter Try.func32, Try.ntmps32
  go_wp2_with fail
  refine (kBWhole c _ c0 c1).mono ?_
  rintro e w1 ⟨rfl, rfl⟩
  go_wp2_with fail
  refine (kBWhole m _ m0 m1).mono ?_
  rintro e w1 ⟨rfl, rfl⟩
  go_wp2_with fail
  go_ret2
  exact ⟨rfl, rfl⟩

theorem kFitsT (a b c d : Int) (w : World) (a0 : 0 ≤ a) (a1 : a < 9007199254740992) (b0 : 0 ≤ b) (b1 : b < 9007199254740992) (c0 : 0 ≤ c) (c1 : c < 9007199254740992) (d0 : 0 ≤ d) (d1 : d < 9007199254740992) (r : Bool) (hr : decide (a ≤ c ∧ b ≤ d) = r) :
    Calls Try.prog 33 #[.complex .f64 (floatOfInt .f64 a) (floatOfInt .f64 b), .complex .f64 (floatOfInt .f64 c) (floatOfInt .f64 d)] w fun e w' => e = .returned (.bool r) ∧ w = w' := by
  have HR := Lib.hid hr
  clear hr
  rcases (show a < c ∨ a = c ∨ c < a by omega) with h | h | h
  · have o1 := ordLt (a := a) (b := c) (by omega) a1 (by omega) c1 h
    rcases (show b < d ∨ b = d ∨ d < b by omega) with h2 | h2 | h2
    · have o2 := ordLt (a := b) (b := d) (by omega) b1 (by omega) d1 h2
      go_enter Try.func33, Try.ntmps33
      go_wp2_with fail
      go_ret
      exact ⟨ret_bool (by rw [← HR.out]; exact (decide_eq_true (by omega)).symm), rfl⟩
    · have o2 := ordEq (a := b) (b := d) (by omega) b1 h2
      have H2 := Lib.hid h2
      clear h2
      go_enter Try.func33, Try.ntmps33
      go_wp2_with fail
      go_ret
      exact ⟨ret_bool (by have := H2.out; rw [← HR.out]; exact (decide_eq_true (by omega)).symm), rfl⟩
    · have o2 := ordGt (a := b) (b := d) (by omega) b1 (by omega) d1 h2
      go_enter Try.func33, Try.ntmps33
      go_wp2_with fail
      go_ret
      exact ⟨ret_bool (by rw [← HR.out]; exact (decide_eq_false (by omega)).symm), rfl⟩
  · have o1 := ordEq (a := a) (b := c) (by omega) a1 h
    have H1 := Lib.hid h
    clear h
    rcases (show b < d ∨ b = d ∨ d < b by omega) with h2 | h2 | h2
    · have o2 := ordLt (a := b) (b := d) (by omega) b1 (by omega) d1 h2
      go_enter Try.func33, Try.ntmps33
      go_wp2_with fail
      go_ret
      exact ⟨ret_bool (by have := H1.out; rw [← HR.out]; exact (decide_eq_true (by omega)).symm), rfl⟩
    · have o2 := ordEq (a := b) (b := d) (by omega) b1 h2
      have H2 := Lib.hid h2
      clear h2
      go_enter Try.func33, Try.ntmps33
      go_wp2_with fail
      go_ret
      exact ⟨ret_bool (by have := H1.out; have := H2.out; rw [← HR.out]; exact (decide_eq_true (by omega)).symm), rfl⟩
    · have o2 := ordGt (a := b) (b := d) (by omega) b1 (by omega) d1 h2
      go_enter Try.func33, Try.ntmps33
      go_wp2_with fail
      go_ret
      exact ⟨ret_bool (by rw [← HR.out]; exact (decide_eq_false (by omega)).symm), rfl⟩
  · have o1 := ordGt (a := a) (b := c) (by omega) a1 (by omega) c1 h
    go_enter Try.func33, Try.ntmps33
    go_wp2_with fail
    go_ret
    exact ⟨ret_bool (by rw [← HR.out]; exact (decide_eq_false (by omega)).symm), rfl⟩

theorem kRefNear28 (n most : Int) (w : World) (r : Int) (hr : (if n < 0 then 0 else if most < n then most else n) = r) :
    Calls Try.prog 68 #[.int .i64 n, .int .i64 most] w fun e w' => e = .returned (.int .i64 r) ∧ w = w' := by
  have HR := Lib.hid hr
  clear hr
  by_cases h0 : n < 0
  · rw [if_pos h0] at HR
    go_enter Try.func68, Try.ntmps68
    go_wp2_with fail
    go_ret
    exact ⟨ret_int HR.out, rfl⟩
  · rw [if_neg h0] at HR
    by_cases h1 : most < n
    · rw [if_pos h1] at HR
      go_enter Try.func68, Try.ntmps68
      go_wp2_with fail
      go_ret
      exact ⟨ret_int HR.out, rfl⟩
    · rw [if_neg h1] at HR
      go_enter Try.func68, Try.ntmps68
      go_wp2_with fail
      go_ret
      exact ⟨ret_int HR.out, rfl⟩

theorem kRefOf (c m : Int) (w : World) :
    Calls Try.prog 28 #[.int .i64 c, .int .i64 m] w fun e w' => e = .returned (.agg #[.int .i64 (nearM c), .int .i64 (nearM m)]) ∧ Below w.heap.size w w' := by
  have K1 := Lib.hid (fun w1 => kRefNear28 c 1099511627776 w1 (nearM c) rfl)
  have K2 := Lib.hid (fun w1 => kRefNear28 m 1099511627776 w1 (nearM m) rfl)
  generalize nearM c = x at *
  generalize nearM m = y at *
  go_enter Try.func28, Try.ntmps28
  go_wp2_with fail
  refine (K1.out _).mono ?_
  rintro e w1 ⟨rfl, rfl⟩
  go_wp2_with fail
  refine (K2.out _).mono ?_
  rintro e w1 ⟨rfl, rfl⟩
  go_wp2_with fail
  refine bodyPost_ret (v := .agg #[.int .i64 x, .int .i64 y]) (by simp [results, Try.results28, go_sem]) rfl ⟨rfl, ?_⟩
  exact (Below.refl _ _).alloc (Nat.le_refl _) _

theorem kRefFits (a b c d : Int) (w : World) (r : Bool) (hr : decide (a ≤ c ∧ b ≤ d) = r) :
    Calls Try.prog 34 #[.agg #[.int .i64 a, .int .i64 b], .agg #[.int .i64 c, .int .i64 d]] w fun e w' => e = .returned (.bool r) ∧ Below w.heap.size w w' := by
  have HR := Lib.hid hr
  clear hr
  have hB := ((Below.refl w.heap.size w).alloc (Nat.le_refl _) (.cells #[.int .i64 a, .int .i64 b] 38)).alloc (by simp) (.cells #[.int .i64 c, .int .i64 d] 38)
  by_cases h : a ≤ c
  · by_cases h2 : b ≤ d
    · go_enter Try.func34, Try.ntmps34
      go_wp2_with fail
      go_ret
      exact ⟨ret_bool (by rw [← HR.out]; exact (decide_eq_true ⟨h, h2⟩).symm), hB⟩
    · go_enter Try.func34, Try.ntmps34
      go_wp2_with fail
      go_ret
      exact ⟨ret_bool (by rw [← HR.out]; exact (decide_eq_false (by omega)).symm), hB⟩
  · go_enter Try.func34, Try.ntmps34
    go_wp2_with fail
    go_ret
    exact ⟨ret_bool (by rw [← HR.out]; exact (decide_eq_false (by omega)).symm), hB⟩

theorem kIs (a b : Int) (w : World) (a1 : -9007199254740992 < a) (a2 : a < 9007199254740992) (b1 : -9007199254740992 < b) (b2 : b < 9007199254740992) :
    Calls Try.prog 29 #[.complex .f64 (floatOfInt .f64 a) (floatOfInt .f64 b), .agg #[.int .i64 a, .int .i64 b]] w fun e w' => e = .returned (.bool true) ∧ Below w.heap.size w w' := by
  have o1 := ordEq (a := a) (b := a) a1 a2 rfl
  have o2 := ordEq (a := b) (b := b) b1 b2 rfl
  go_enter Try.func29, Try.ntmps29
  go_wp2_with fail
  go_ret
  exact ⟨rfl, (Below.refl _ _).alloc (Nat.le_refl _) _⟩

theorem kOver (a b c d : Int) (w : World) (a0 : 0 ≤ a) (a1 : a < 4503599627370496) (b0 : 0 ≤ b) (b1 : b < 4503599627370496) (c0 : 0 ≤ c) (c1 : c < 4503599627370496) (d0 : 0 ≤ d) (d1 : d < 4503599627370496) (x y : Int) (hx : max (a - c) 0 = x) (hy : max (b - d) 0 = y) :
    Calls Try.prog 35 #[.complex .f64 (floatOfInt .f64 a) (floatOfInt .f64 b), .complex .f64 (floatOfInt .f64 c) (floatOfInt .f64 d)] w fun e w' => e = .returned (.complex .f64 (floatOfInt .f64 x) (floatOfInt .f64 y)) ∧ w = w' := by
  have e1 := fun t w => run_complex_sum (P := Try.prog) w .sub (Or.inr rfl) t .f64 _ _ _ _ _ _ (csub_fl (a := a) (b := b) (c := c) (d := d) (by omega) (by omega) (by omega) (by omega) (by omega) (by omega) (by omega) (by omega))
  have hu := ordZ_cases (u := a - c) (by omega) (by omega)
  have hv := ordZ_cases (u := b - d) (by omega) (by omega)
  rw [hx] at hu
  rw [hy] at hv
  have k2 := cadd_fl (a := 0) (b := 0) (c := a - c) (d := 0) (by omega) (by omega) (by omega) (by omega) (by omega) (by omega) (by omega) (by omega)
  have k3 := cadd_fl (a := 0) (b := 0) (c := 0) (d := b - d) (by omega) (by omega) (by omega) (by omega) (by omega) (by omega) (by omega) (by omega)
  have k4 := cadd_fl (a := a - c) (b := 0) (c := 0) (d := b - d) (by omega) (by omega) (by omega) (by omega) (by omega) (by omega) (by omega) (by omega)
  simp only [Int.zero_add, Int.add_zero, fl_zero] at k2 k3 k4
  have e2 := fun t w => run_complex_sum (P := Try.prog) w .add (Or.inl rfl) t .f64 _ _ _ _ _ _ k2
  have e3 := fun t w => run_complex_sum (P := Try.prog) w .add (Or.inl rfl) t .f64 _ _ _ _ _ _ k3
  have e4 := fun t w => run_complex_sum (P := Try.prog) w .add (Or.inl rfl) t .f64 _ _ _ _ _ _ k4
  clear k2 k3 k4 hx hy
  generalize a - c = u at *
  generalize b - d = v at *
  rcases hu with ⟨o1, hx⟩ | ⟨o1, hx⟩ | ⟨o1, hx⟩
  all_goals
    rcases hv with ⟨o2, hy⟩ | ⟨o2, hy⟩ | ⟨o2, hy⟩
    all_goals
      have HX := Lib.hid hx
      have HY := Lib.hid hy
      clear hx hy
      go_enter Try.func35, Try.ntmps35
      go_wp2_with fail
      go_ret
      exact ⟨ret_cx HX.out HY.out, rfl⟩

theorem kRefOver (a b c d : Int) (w : World) (a0 : 0 ≤ a) (a1 : a < 4503599627370496) (b0 : 0 ≤ b) (b1 : b < 4503599627370496) (c0 : 0 ≤ c) (c1 : c < 4503599627370496) (d0 : 0 ≤ d) (d1 : d < 4503599627370496) (x y : Int) (hx : max (a - c) 0 = x) (hy : max (b - d) 0 = y) :
    Calls Try.prog 36 #[.agg #[.int .i64 a, .int .i64 b], .agg #[.int .i64 c, .int .i64 d]] w fun e w' => e = .returned (.agg #[.int .i64 x, .int .i64 y]) ∧ Below w.heap.size w w' := by
  have HX := Lib.hid hx
  have HY := Lib.hid hy
  clear hx hy
  have hB : ∀ X Y : Array Go.Value, Below w.heap.size w ((((w.alloc (.cells #[.int .i64 a, .int .i64 b] 38)).alloc (.cells #[.int .i64 c, .int .i64 d] 38)).alloc (.cells X 38)).alloc (.cells Y 38)) := fun X Y =>
    ((((Below.refl w.heap.size w).alloc (Nat.le_refl _) _).alloc (by simp) _).alloc (by simp; omega) _).alloc (by simp; omega) _
  by_cases h : c < a
  · by_cases h2 : d < b
    · go_enter Try.func36, Try.ntmps36
      go_wp2_with fail
      exact bodyPost_ret (v := .agg #[.int .i64 (a - c), .int .i64 (b - d)]) (by simp [results, Try.results36, go_sem]) rfl ⟨ret_ag2 (by rw [← HX.out]; omega) (by rw [← HY.out]; omega), hB _ _⟩
    · go_enter Try.func36, Try.ntmps36
      go_wp2_with fail
      exact bodyPost_ret (v := .agg #[.int .i64 (a - c), .int .i64 0]) (by simp [results, Try.results36, go_sem]) rfl ⟨ret_ag2 (by rw [← HX.out]; omega) (by rw [← HY.out]; omega), hB _ _⟩
  · by_cases h2 : d < b
    · go_enter Try.func36, Try.ntmps36
      go_wp2_with fail
      exact bodyPost_ret (v := .agg #[.int .i64 0, .int .i64 (b - d)]) (by simp [results, Try.results36, go_sem]) rfl ⟨ret_ag2 (by rw [← HX.out]; omega) (by rw [← HY.out]; omega), hB _ _⟩
    · go_enter Try.func36, Try.ntmps36
      go_wp2_with fail
      exact bodyPost_ret (v := .agg #[.int .i64 0, .int .i64 0]) (by simp [results, Try.results36, go_sem]) rfl ⟨ret_ag2 (by rw [← HX.out]; omega) (by rw [← HY.out]; omega), hB _ _⟩

/-- what both texts are made of -/
theorem burParts (a m2 : Int) (a1 : a < 4503599627370496) (l : List UInt8) (hl : mtxt a ++ 32 :: szT m2 = l) :
    (bs (mtxt a)).size ≤ 24 ∧ (bs (szT m2)).size ≤ 21 ∧ (bs (mtxt a) ++ (⟨#[32]⟩ : ByteArray)).size ≤ 25 ∧ bs (mtxt a) ++ (⟨#[32]⟩ : ByteArray) ++ bs (szT m2) = bs l := by
  have s1 : (bs (mtxt a)).size ≤ 24 := by rw [bs_size]; exact mtxtL (by omega)
  have s2 : (bs (szT m2)).size ≤ 21 := by rw [bs_size]; exact sztL _
  refine ⟨s1, s2, ?_, ?_⟩
  · rw [ByteArray.size_append]; have : (⟨#[32]⟩ : ByteArray).size = 1 := rfl; omega
  · rw [← hl, show mtxt a ++ 32 :: szT m2 = mtxt a ++ [32] ++ szT m2 by simp, ← bs_append, ← bs_append]; rfl
theorem kBurText (a b m2 : Int) (w : World) (a0 : 0 ≤ a) (a1 : a < 4503599627370496) (b0 : 0 ≤ b) (b1 : b < 4503599627370496) (hm : (b ≤ 1125899906842624 ∧ b = m2) ∨ (1125899906842624 < b ∧ m2 = 1125899906842624)) (l : List UInt8) (hl : mtxt a ++ 32 :: szT m2 = l) :
    Calls Try.prog 37 #[.complex .f64 (floatOfInt .f64 a) (floatOfInt .f64 b)] w fun e w' => e = .returned (.string (bs l)) ∧ Below w.heap.size w w' := by
  obtain ⟨s1, s2, s3, hap⟩ := burParts a m2 a1 l hl
  have K1 := Lib.hid (fun w1 => kMilliText a w1 (by omega))
  have K2 := Lib.hid (fun w1 => kSizeText m2 w1)
  have Hap := Lib.hid hap
  clear hap hl
  generalize mtxt a = m1 at *
  generalize szT m2 = m3 at *
  rcases hm with ⟨h, rfl⟩ | ⟨h, rfl⟩
  all_goals
    go_enter Try.func37, Try.ntmps37
    go_wp2_with fail
    refine (kParts a b _ a0 (by omega) b0 (by omega)).mono ?_
    rintro e w1 ⟨rfl, rfl⟩
    go_wp2_with fail
    refine (K1.out _).mono ?_
    rintro e w1 ⟨rfl, hb1⟩
    go_wp2_with fail
    refine (K2.out _).mono ?_
    rintro e w2 ⟨rfl, hb2⟩
    go_wp2_with fail
    go_ret
    exact ⟨by rw [← Hap.out]; rfl, hb1.trans (hb2.mono hb1.size)⟩

end Go.Proofs.Ytglihjdbbpohlaa.W
