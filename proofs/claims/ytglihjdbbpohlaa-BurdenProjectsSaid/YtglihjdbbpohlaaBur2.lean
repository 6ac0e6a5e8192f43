/- Contracts of the sums of burdens. -/
import Derived.Test.YtglihjdbbpohlaaBur1
import Derived.Test.YtglihjdbbpohlaaPlSu
import Derived.Deep.OwnRows
namespace Go.Proofs.Ytglihjdbbpohlaa.W
open Go.RowKit Go.Proofs.Ytglihjdbbpohlaa.Pl

theorem kSumNil (w : World) :
    Calls Try.prog 30 #[.slice none 0 0] w fun e w' => e = .returned (.complex .f64 (floatOfInt .f64 0) (floatOfInt .f64 0)) ∧ w = w' := by
  have HZ := Lib.hid fl_zero
  go_enter Try.func30, Try.ntmps30
  go_wp2_with fail
  refine wp_loop_rounds 1 ?_
  rw [rounds_succ]
  go_wp2
  go_ret
  exact ⟨ret_cx HZ.out.symm HZ.out.symm, rfl⟩

theorem kSum (w : World) (g n cap : Nat) (c m : Nat → Int) (h0 : 0 < n) (hn : n ≤ 300) (hcap : n ≤ cap) (hc : ∀ i, i < n → 0 ≤ c i ∧ c i ≤ 4398046511104) (hm : ∀ i, i < n → 0 ≤ m i ∧ m i ≤ 4398046511104)
    (hcell : ∀ i, i < n → w.cell? ⟨g, i, none⟩ = some (.complex .f64 (floatOfInt .f64 (c i)) (floatOfInt .f64 (m i)))) (x y : Int) (hx : su c n = x) (hy : su m n = y) :
    Calls Try.prog 30 #[.slice (some ⟨g, 0, none⟩) n cap] w fun e w' => e = .returned (.complex .f64 (floatOfInt .f64 x) (floatOfInt .f64 y)) ∧ w = w' := by
  have HX := Lib.hid hx
  have HY := Lib.hid hy
  have HC := Lib.hid hc
  have HM := Lib.hid hm
  have HL := Lib.hid hcell
  have HZ := Lib.hid fl_zero
  have hmin : min (n : Int) 4096 = n := by omega
  clear hx hy hc hm hcell
  go_enter Try.func30, Try.ntmps30
  go_wp2_with fail
  go_loop [3, 12] (fun out i => ∃ k : Nat, k ≤ n ∧ i = .int .i64 k ∧ out = .complex .f64 (floatOfInt .f64 (su c k)) (floatOfInt .f64 (su m k))) (fun _ i => n - (intOf i).toNat)
  case atStart => exact ⟨0, Nat.zero_le _, rfl, by rw [show su c 0 = 0 from rfl, show su m 0 = 0 from rfl, HZ.out]⟩
  case round =>
    obtain ⟨k, hk, rfl, rfl⟩ := hrel
    by_cases hlt : k < n
    · have hcl := HL.out k hlt
      have b1 := su_le 300 HC.out hn (by omega) (k := k) (by omega)
      have b2 := su_le 300 HM.out hn (by omega) (k := k) (by omega)
      have b3 := HC.out k hlt
      have b4 := HM.out k hlt
      have hs1 := Lib.hid (show su c (k + 1) = su c k + c k from rfl)
      have hs2 := Lib.hid (show su m (k + 1) = su m k + m k from rfl)
      generalize su c k = u at *
      generalize su m k = v at *
      generalize c k = p at *
      generalize m k = q at *
      have e1 := fun t w => run_complex_sum (P := Try.prog) w .add (Or.inl rfl) t .f64 _ _ _ _ _ _ (cadd_fl (a := u) (b := v) (c := p) (d := q) (by omega) (by omega) (by omega) (by omega) (by omega) (by omega) (by omega) (by omega))
      go_wp2_with fail
      go_round
      case rel => exact ⟨k + 1, by omega, by go_num, by rw [hs1.out, hs2.out]⟩
      case measure => simp [intOf]; omega
    · have : k = n := by omega
      subst this
      go_wp2_with fail
      go_ret
      exact ⟨ret_cx (by rw [HX.out]) (by rw [HY.out]), rfl⟩

/-- the two cells of a sum -/
def two (a b : Int) : Nat → Go.Value := fun j => if j = 0 then .int .i64 a else .int .i64 b
theorem two_set {w : World} {B : Nat} {T : TypeId} {u v x y u' v' : Int} (h : w.rowIs B T 2 (two u v)) (hx : x = u') (hy : y = v') :
    ((w.setCell ⟨B, 0, none⟩ (.int .i64 x)).setCell ⟨B, 1, none⟩ (.int .i64 y)).drew.drew.rowIs B T 2 (two u' v') := by
  have h2 := (h.set 0 (.int .i64 x)).set 1 (.int .i64 y)
  subst hx hy
  refine World.rowIs.drew (World.rowIs.drew (h2.congr fun i hi => ?_))
  rcases (show i = 0 ∨ i = 1 by omega) with rfl | rfl <;> rfl
set_option maxRecDepth 100000 in
set_option maxHeartbeats 1000000 in
theorem kRefSum (w : World) (g n cap : Nat) (c m : Nat → Int) (h0 : 0 < n) (hn : n ≤ 300) (hg : g < w.heap.size) (hc : ∀ i, i < n → 0 ≤ c i ∧ c i ≤ 4398046511104) (hm : ∀ i, i < n → 0 ≤ m i ∧ m i ≤ 4398046511104)
    (hcell : ∀ i, i < n → w.cell? ⟨g, i * 2, none⟩ = some (.int .i64 (c i)) ∧ w.cell? ⟨g, i * 2 + 1, none⟩ = some (.int .i64 (m i))) (x y : Int) (hx : su c n = x) (hy : su m n = y) :
    Calls Try.prog 31 #[.slice (some ⟨g, 0, none⟩) n cap] w fun e w' => e = .returned (.agg #[.int .i64 x, .int .i64 y]) ∧ Below w.heap.size w w' := by
  have HX := Lib.hid hx
  have HY := Lib.hid hy
  have HC := Lib.hid hc
  have HM := Lib.hid hm
  have HL := Lib.hid hcell
  clear hx hy hc hm hcell
  go_enter Try.func31, Try.ntmps31
  go_wp2_with fail
  go_loopw [4] (fun i wr => ∃ k : Nat, k ≤ n ∧ i = .int .i64 k ∧ Below w.heap.size w wr ∧ Hid (wr.rowIs (w.heap.size + 1) 38 2 (two (su c k) (su m k))) ∧ Hid (wr.rowIs w.heap.size 38 2 (two 0 0))) (fun i _ => n - (intOf i).toNat)
  case atStart =>
    refine ⟨0, Nat.zero_le _, rfl, ((Below.refl _ _).alloc (Nat.le_refl _) _).alloc (by simp) _, Lib.hid ?_, Lib.hid ?_⟩
    · have := World.rowIs_alloc (w.alloc (Obj.cells #[.int .i64 0, .int .i64 0] 38)) #[.int .i64 0, .int .i64 0] 38 (two (su c 0) (su m 0)) fun i hi => by
        have hi' : i < 2 := hi
        rcases (show i = 0 ∨ i = 1 by omega) with rfl | rfl <;> rfl
      simpa using this
    · refine World.rowIs.alloc ?_ _
      refine World.rowIs_alloc w #[.int .i64 0, .int .i64 0] _ _ fun i hi => ?_
      have hi' : i < 2 := hi
      rcases (show i = 0 ∨ i = 1 by omega) with rfl | rfl <;> rfl
  case round =>
    obtain ⟨k, hk, rfl, hb, HR, HS⟩ := hrel
    by_cases hlt : k < n
    · have hcl := (HL.out k hlt)
      have d1 := (hb.cell (p := ⟨g, k * 2, none⟩) hg).trans hcl.1
      have d2 := (hb.cell (p := ⟨g, k * 2 + 1, none⟩) hg).trans hcl.2
      have b1 := su_le 300 HC.out hn (by omega) (k := k) (by omega)
      have b2 := su_le 300 HM.out hn (by omega) (k := k) (by omega)
      have b3 := HC.out k hlt
      have b4 := HM.out k hlt
      have hs1 := Lib.hid (show su c (k + 1) = su c k + c k from rfl)
      have hs2 := Lib.hid (show su m (k + 1) = su m k + m k from rfl)
      generalize su c k = u at *
      generalize su m k = v at *
      generalize c k = p at *
      generalize m k = q at *
      have d3 : wr.cell? ⟨w.heap.size + 1, 0, none⟩ = some (.int .i64 u) := HR.out.cell (i := 0) (by omega)
      have d4 : wr.cell? ⟨w.heap.size + 1, 1, none⟩ = some (.int .i64 v) := HR.out.cell (i := 1) (by omega)
      have d5 := HR.out.frozen 0
      have d6 := HR.out.frozen 1
      have hne : g ≠ w.heap.size + 1 := by omega
      have hwa : IntKind.i64.wrap (u + p) = u + p := IntWalk.i64_in _ (by omega)
      have hwb : IntKind.i64.wrap (v + q) = v + q := IntWalk.i64_in _ (by omega)
      clear hcl
      go_wp2_with fail
      go_region
      all_goals
        go_wp2
        go_region
        all_goals
          go_wp2
          go_roundw
          case rel => exact ⟨k + 1, by omega, by go_num, ((hb.setCell (by simp) _).setCell (by simp) _).drew.drew, Lib.hid (two_set HR.out hs1.out.symm hs2.out.symm), Lib.hid (((HS.out.setOther (by simp) _).setOther (by simp) _).drew.drew)⟩
          case measure => simp [intOf]; omega
    · have : k = n := by omega
      subst this
      have d3 : wr.cell? ⟨w.heap.size + 1, 0, none⟩ = some (.int .i64 (su c k)) := HR.out.cell (i := 0) (by omega)
      have d4 : wr.cell? ⟨w.heap.size + 1, 1, none⟩ = some (.int .i64 (su m k)) := HR.out.cell (i := 1) (by omega)
      have d7 : wr.cell? ⟨w.heap.size, 0, none⟩ = some (.int .i64 0) := HS.out.cell (i := 0) (by omega)
      have d8 : wr.cell? ⟨w.heap.size, 1, none⟩ = some (.int .i64 0) := HS.out.cell (i := 1) (by omega)
      have d5 := HS.out.frozen 0
      have d6 := HS.out.frozen 1
      go_wp2_with fail
      have r1 := HS.out.set 0 (.int .i64 (su c k))
      have r2 := r1.set 1 (.int .i64 (su m k))
      have f2 := r2.cell (i := 0) (by omega)
      have f3 := r2.cell (i := 1) (by omega)
      simp only [if_true] at f2 f3
      rw [if_neg (by omega)] at f2
      refine bodyPost_ret (v := .agg #[.int .i64 (su c k), .int .i64 (su m k)]) (by simp [results, Try.results31, go_sem, f2, f3]) rfl ⟨ret_ag2 HX.out HY.out, ?_⟩
      exact (hb.setCell (by simp) _).setCell (by simp) _
theorem kRefSumNil (w : World) :
    Calls Try.prog 31 #[.slice none 0 0] w fun e w' => e = .returned (.agg #[.int .i64 0, .int .i64 0]) ∧ Below w.heap.size w w' := by
  go_enter Try.func31, Try.ntmps31
  go_wp2_with fail
  refine wp_loop_rounds 1 ?_
  rw [rounds_succ]
  go_wp2
  refine bodyPost_ret (v := .agg #[.int .i64 0, .int .i64 0]) (by simp [results, Try.results31, go_sem]) rfl ⟨rfl, ?_⟩
  exact ((Below.refl _ _).alloc (Nat.le_refl _) _).alloc (by simp) _

/-- complex numbers in a new block, summed -/
theorem kSum2 (w : World) (a b c d : Int) (T : TypeId) (a0 : 0 ≤ a ∧ a ≤ 4398046511104) (b0 : 0 ≤ b ∧ b ≤ 4398046511104) (c0 : 0 ≤ c ∧ c ≤ 4398046511104) (d0 : 0 ≤ d ∧ d ≤ 4398046511104) (x y : Int) (hx : a + c = x) (hy : b + d = y) :
    Calls Try.prog 30 #[.slice (some ⟨w.heap.size, 0, none⟩) 2 2] (w.alloc (.cells #[.complex .f64 (floatOfInt .f64 a) (floatOfInt .f64 b), .complex .f64 (floatOfInt .f64 c) (floatOfInt .f64 d)] T))
      fun e w' => e = .returned (.complex .f64 (floatOfInt .f64 x) (floatOfInt .f64 y)) ∧ w.alloc (.cells #[.complex .f64 (floatOfInt .f64 a) (floatOfInt .f64 b), .complex .f64 (floatOfInt .f64 c) (floatOfInt .f64 d)] T) = w' := by
  refine kSum _ _ 2 2 (fun i => if i = 0 then a else c) (fun i => if i = 0 then b else d) (by omega) (by omega) (by omega) ?_ ?_ ?_ x y ?_ ?_
  · intro i _; show 0 ≤ (if i = 0 then a else c) ∧ (if i = 0 then a else c) ≤ 4398046511104; split <;> omega
  · intro i _; show 0 ≤ (if i = 0 then b else d) ∧ (if i = 0 then b else d) ≤ 4398046511104; split <;> omega
  · intro i hi
    rw [World.cell?_alloc_at _ _ _ _ rfl]
    rcases (show i = 0 ∨ i = 1 by omega) with rfl | rfl <;> rfl
  · rw [← hx]; show 0 + a + c = a + c; omega
  · rw [← hy]; show 0 + b + d = b + d; omega
theorem kSum3 (w : World) (a b c d e f : Int) (T : TypeId) (a0 : 0 ≤ a ∧ a ≤ 4398046511104) (b0 : 0 ≤ b ∧ b ≤ 4398046511104) (c0 : 0 ≤ c ∧ c ≤ 4398046511104) (d0 : 0 ≤ d ∧ d ≤ 4398046511104) (e0 : 0 ≤ e ∧ e ≤ 4398046511104) (f0 : 0 ≤ f ∧ f ≤ 4398046511104) (x y : Int) (hx : a + c + e = x) (hy : b + d + f = y) :
    Calls Try.prog 30 #[.slice (some ⟨w.heap.size, 0, none⟩) 3 3] (w.alloc (.cells #[.complex .f64 (floatOfInt .f64 a) (floatOfInt .f64 b), .complex .f64 (floatOfInt .f64 c) (floatOfInt .f64 d), .complex .f64 (floatOfInt .f64 e) (floatOfInt .f64 f)] T))
      fun e' w' => e' = .returned (.complex .f64 (floatOfInt .f64 x) (floatOfInt .f64 y)) ∧ w.alloc (.cells #[.complex .f64 (floatOfInt .f64 a) (floatOfInt .f64 b), .complex .f64 (floatOfInt .f64 c) (floatOfInt .f64 d), .complex .f64 (floatOfInt .f64 e) (floatOfInt .f64 f)] T) = w' := by
  refine kSum _ _ 3 3 (fun i => if i = 0 then a else if i = 1 then c else e) (fun i => if i = 0 then b else if i = 1 then d else f) (by omega) (by omega) (by omega) ?_ ?_ ?_ x y ?_ ?_
  · intro i _; show 0 ≤ (if i = 0 then a else if i = 1 then c else e) ∧ (if i = 0 then a else if i = 1 then c else e) ≤ 4398046511104; split; omega; split <;> omega
  · intro i _; show 0 ≤ (if i = 0 then b else if i = 1 then d else f) ∧ (if i = 0 then b else if i = 1 then d else f) ≤ 4398046511104; split; omega; split <;> omega
  · intro i hi
    rw [World.cell?_alloc_at _ _ _ _ rfl]
    rcases (show i = 0 ∨ i = 1 ∨ i = 2 by omega) with rfl | rfl | rfl <;> rfl
  · rw [← hx]; show 0 + a + c + e = a + c + e; omega
  · rw [← hy]; show 0 + b + d + f = b + d + f; omega
theorem kOfC (c m : Int) (w : World) (x y : Int) (hx : nearM c = x) (hy : nearM m = y) :
    Calls Try.prog 27 #[.int .i64 c, .int .i64 m] w fun e w' => e = .returned (.complex .f64 (floatOfInt .f64 x) (floatOfInt .f64 y)) ∧ w = w' := by
  subst hx hy; exact kOf c m w

theorem kAwake28 (w : World) : Calls Try.prog 26 #[] w fun e w' => e = .returned (.bool true) ∧ Below w.heap.size w w' := by
  have o1 : FloatKind.f64.format.order (floatOfInt .f64 1000) 4652007308841189376 = some .eq := by decide +kernel
  have o2 : FloatKind.f64.format.order (floatOfInt .f64 2048) 4656722014701092864 = some .eq := by decide +kernel
  have o3 : FloatKind.f64.format.order (floatOfInt .f64 200) 4641240890982006784 = some .eq := by decide +kernel
  have o4 : FloatKind.f64.format.order (floatOfInt .f64 0) 0 = some .eq := by decide +kernel
  have K1 := Lib.hid (fun w1 => kOfC 500 1024 w1 500 1024 (by decide) (by decide))
  have K2 := Lib.hid (fun w1 => kOfC 800 4096 w1 800 4096 (by decide) (by decide))
  have K3 := Lib.hid (fun w1 => kSum2 w1 500 1024 500 1024 36 (by omega) (by omega) (by omega) (by omega) 1000 2048 (by omega) (by omega))
  have K4 := Lib.hid (fun w1 => kBurText 1000 2048 2048 w1 (by omega) (by omega) (by omega) (by omega) (.inl ⟨by omega, rfl⟩) [49, 32, 50, 107] (by decide))
  have K5 := Lib.hid (fun w1 => kFitsT 1000 2048 800 4096 w1 (by omega) (by omega) (by omega) (by omega) (by omega) (by omega) (by omega) (by omega) false (by decide))
  have K6 := Lib.hid (fun w1 => kOver 1000 2048 800 4096 w1 (by omega) (by omega) (by omega) (by omega) (by omega) (by omega) (by omega) (by omega) 200 0 (by decide) (by decide))
  have hq : ((bs [49, 32, 50, 107]).toList == [49, 32, 50, 107]) = true := by rw [bs_toList]; rfl
  go_enter Try.func26, Try.ntmps26
  go_wp2_with fail
  refine (K1.out _).mono ?_
  rintro e w1 ⟨rfl, rfl⟩
  go_wp2_with fail
  refine (K1.out _).mono ?_
  rintro e w1 ⟨rfl, rfl⟩
  go_wp2_with fail
  refine (K3.out _).mono ?_
  rintro e w1 ⟨rfl, rfl⟩
  go_wp2_with fail
  refine (K4.out _).mono ?_
  rintro e w2 ⟨rfl, hb2⟩
  go_wp2_with fail
  refine (K2.out _).mono ?_
  rintro e w1 ⟨rfl, rfl⟩
  go_wp2_with fail
  refine (K5.out _).mono ?_
  rintro e w1 ⟨rfl, rfl⟩
  go_wp2_with fail
  refine (K2.out _).mono ?_
  rintro e w1 ⟨rfl, rfl⟩
  go_wp2_with fail
  refine (K6.out _).mono ?_
  rintro e w1 ⟨rfl, rfl⟩
  go_wp2_with fail
  go_ret
  exact ⟨rfl, ((Below.refl _ _).alloc (Nat.le_refl _) _).trans (hb2.mono (by simp))⟩
end Go.Proofs.Ytglihjdbbpohlaa.W
