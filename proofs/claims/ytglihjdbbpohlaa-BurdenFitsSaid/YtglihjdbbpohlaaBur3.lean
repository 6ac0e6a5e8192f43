/- The walk of BurdenFits. -/
import Derived.Test.YtglihjdbbpohlaaBur2
import Derived.BigQuiet
namespace Go.Proofs.Ytglihjdbbpohlaa.W
open Go.RowKit Go.Proofs.Ytglihjdbbpohlaa.Pl

theorem quietL {P : Program} {f : FuncId} {args : Array Go.Value} {w : World} {n : Nat} {v : Go.Value}
    (h : Calls P f args (w.drewN n) fun e w' => e = .returned v ∧ w.drewN n = w') : Calls P f args (w.drewN n) fun e w'' => e = .returned v ∧ ∃ m, w'' = w.drewN m :=
  h.mono fun _ _ ⟨he, hm⟩ => ⟨he, n, hm.symm⟩
/-- sums in a new block, the block's number given -/
theorem kSum2B (a b c d : Int) (T : TypeId) (a0 : 0 ≤ a ∧ a ≤ 4398046511104) (b0 : 0 ≤ b ∧ b ≤ 4398046511104) (c0 : 0 ≤ c ∧ c ≤ 4398046511104) (d0 : 0 ≤ d ∧ d ≤ 4398046511104) (x y : Int) (hx : a + c = x) (hy : b + d = y) (w : World) (B : Nat) (hB : w.heap.size = B) :
    Calls Try.prog 30 #[.slice (some ⟨B, 0, none⟩) 2 2] (w.alloc (.cells #[.complex .f64 (floatOfInt .f64 a) (floatOfInt .f64 b), .complex .f64 (floatOfInt .f64 c) (floatOfInt .f64 d)] T))
      fun e w' => e = .returned (.complex .f64 (floatOfInt .f64 x) (floatOfInt .f64 y)) ∧ w.alloc (.cells #[.complex .f64 (floatOfInt .f64 a) (floatOfInt .f64 b), .complex .f64 (floatOfInt .f64 c) (floatOfInt .f64 d)] T) = w' := by
  subst hB; exact kSum2 w a b c d T a0 b0 c0 d0 x y hx hy
theorem kSum3B (a b c d e f : Int) (T : TypeId) (a0 : 0 ≤ a ∧ a ≤ 4398046511104) (b0 : 0 ≤ b ∧ b ≤ 4398046511104) (c0 : 0 ≤ c ∧ c ≤ 4398046511104) (d0 : 0 ≤ d ∧ d ≤ 4398046511104) (e0 : 0 ≤ e ∧ e ≤ 4398046511104) (f0 : 0 ≤ f ∧ f ≤ 4398046511104) (x y : Int) (hx : a + c + e = x) (hy : b + d + f = y) (w : World) (B : Nat) (hB : w.heap.size = B) :
    Calls Try.prog 30 #[.slice (some ⟨B, 0, none⟩) 3 3] (w.alloc (.cells #[.complex .f64 (floatOfInt .f64 a) (floatOfInt .f64 b), .complex .f64 (floatOfInt .f64 c) (floatOfInt .f64 d), .complex .f64 (floatOfInt .f64 e) (floatOfInt .f64 f)] T))
      fun e' w' => e' = .returned (.complex .f64 (floatOfInt .f64 x) (floatOfInt .f64 y)) ∧ w.alloc (.cells #[.complex .f64 (floatOfInt .f64 a) (floatOfInt .f64 b), .complex .f64 (floatOfInt .f64 c) (floatOfInt .f64 d), .complex .f64 (floatOfInt .f64 e) (floatOfInt .f64 f)] T) = w' := by
  subst hB; exact kSum3 w a b c d e f T a0 b0 c0 d0 e0 f0 x y hx hy
theorem ordZ_eqC {m : Int} (h : m = 0) : FloatKind.f64.format.order (floatOfInt .f64 m) 0 = some .eq := by rw [h]; exact ordZ_eq

set_option maxRecDepth 100000 in
set_option maxHeartbeats 4000000 in
theorem kFitsCase0 (p q r s t u : Int) (w : World) (hcase : (nearM p ≤ nearM r ∧ nearM q ≤ nearM s) ∧ ((nearM p + nearM p ≤ nearM r ∧ nearM q + nearM q ≤ nearM s)) ∧ ((nearM r ≤ nearM t ∧ nearM s ≤ nearM u))) :
    Calls Try.prog 7 #[.agg #[.int .i64 p, .int .i64 q], .agg #[.int .i64 r, .int .i64 s], .agg #[.int .i64 t, .int .i64 u]] w fun e w' => e = .returned (.bool true) ∧ Below w.heap.size w w' := by
  have hbx1 := nearM_bd p
  have hbx2 := nearM_bd q
  have hby1 := nearM_bd r
  have hby2 := nearM_bd s
  have hbz1 := nearM_bd t
  have hbz2 := nearM_bd u
  have G1 := Lib.hid (fun w1 n => kOf p q (World.drewN w1 n))
  have G2 := Lib.hid (fun w1 n => kOf r s (World.drewN w1 n))
  have G3 := Lib.hid (fun w1 n => kOf t u (World.drewN w1 n))
  generalize nearM p = x1 at *
  generalize nearM q = x2 at *
  generalize nearM r = y1 at *
  generalize nearM s = y2 at *
  generalize nearM t = z1 at *
  generalize nearM u = z2 at *
  obtain ⟨hbx1, hbx1'⟩ := hbx1
  obtain ⟨hbx2, hbx2'⟩ := hbx2
  obtain ⟨hby1, hby1'⟩ := hby1
  obtain ⟨hby2, hby2'⟩ := hby2
  obtain ⟨hbz1, hbz1'⟩ := hbz1
  obtain ⟨hbz2, hbz2'⟩ := hbz2
  obtain ⟨m1, hm1⟩ : ∃ m, max (x1 - y1) 0 = m := ⟨_, rfl⟩
  obtain ⟨m2, hm2⟩ : ∃ m, max (x2 - y2) 0 = m := ⟨_, rfl⟩
  obtain ⟨d1, hd1⟩ : ∃ d, x1 - m1 = d := ⟨_, rfl⟩
  obtain ⟨d2, hd2⟩ : ∃ d, x2 - m2 = d := ⟨_, rfl⟩
  obtain ⟨s1, hs1⟩ : ∃ m, x1 + y1 + z1 = m := ⟨_, rfl⟩
  obtain ⟨s2, hs2⟩ : ∃ m, x2 + y2 + z2 = m := ⟨_, rfl⟩
  obtain ⟨k1, hk1⟩ : ∃ m, x1 + y1 = m := ⟨_, rfl⟩
  obtain ⟨k2, hk2⟩ : ∃ m, x2 + y2 = m := ⟨_, rfl⟩
  obtain ⟨l1, hl1⟩ : ∃ m, y1 + z1 = m := ⟨_, rfl⟩
  obtain ⟨l2, hl2⟩ : ∃ m, y2 + z2 = m := ⟨_, rfl⟩
  obtain ⟨n1, hn1⟩ : ∃ m, x1 + x1 = m := ⟨_, rfl⟩
  obtain ⟨n2, hn2⟩ : ∃ m, x2 + x2 = m := ⟨_, rfl⟩
  have e1 := Lib.hid (fun w1 B (hB : (World.heap w1).size = B) => kSum3B x1 x2 y1 y2 z1 z2 36 (by omega) (by omega) (by omega) (by omega) (by omega) (by omega) s1 s2 (by omega) (by omega) w1 B hB)
  have e2 := Lib.hid (fun w1 B (hB : (World.heap w1).size = B) => kSum3B z1 z2 x1 x2 y1 y2 36 (by omega) (by omega) (by omega) (by omega) (by omega) (by omega) s1 s2 (by omega) (by omega) w1 B hB)
  have e3 := Lib.hid (fun w1 B (hB : (World.heap w1).size = B) => kSum2B x1 x2 y1 y2 36 (by omega) (by omega) (by omega) (by omega) k1 k2 (by omega) (by omega) w1 B hB)
  have e4 := Lib.hid (fun w1 B (hB : (World.heap w1).size = B) => kSum2B k1 k2 z1 z2 36 (by omega) (by omega) (by omega) (by omega) s1 s2 (by omega) (by omega) w1 B hB)
  have e5 := Lib.hid (fun w1 B (hB : (World.heap w1).size = B) => kSum2B y1 y2 z1 z2 36 (by omega) (by omega) (by omega) (by omega) l1 l2 (by omega) (by omega) w1 B hB)
  have e6 := Lib.hid (fun w1 B (hB : (World.heap w1).size = B) => kSum2B x1 x2 l1 l2 36 (by omega) (by omega) (by omega) (by omega) s1 s2 (by omega) (by omega) w1 B hB)
  have e7 := Lib.hid (fun w1 => kSumNil w1)
  have e8 := Lib.hid (fun w1 => kOver x1 x2 y1 y2 w1 (by omega) (by omega) (by omega) (by omega) (by omega) (by omega) (by omega) (by omega) m1 m2 hm1 hm2)
  have e9 := Lib.hid (fun w1 => kFitsT d1 d2 y1 y2 w1 (by omega) (by omega) (by omega) (by omega) (by omega) (by omega) (by omega) (by omega) true (decide_eq_true (by omega)))
  have e10 := Lib.hid (fun w1 B (hB : (World.heap w1).size = B) => kSum2B d1 d2 m1 m2 36 (by omega) (by omega) (by omega) (by omega) x1 x2 (by omega) (by omega) w1 B hB)
  have e11 := Lib.hid (fun w1 B (hB : (World.heap w1).size = B) => kSum2B x1 x2 x1 x2 36 (by omega) (by omega) (by omega) (by omega) n1 n2 (by omega) (by omega) w1 B hB)
  have FA := fun r h w1 => kFitsT x1 x2 y1 y2 w1 (by omega) (by omega) (by omega) (by omega) (by omega) (by omega) (by omega) (by omega) r h
  have FD := fun r h w1 => kFitsT n1 n2 y1 y2 w1 (by omega) (by omega) (by omega) (by omega) (by omega) (by omega) (by omega) (by omega) r h
  have FB := fun r h w1 => kFitsT y1 y2 z1 z2 w1 (by omega) (by omega) (by omega) (by omega) (by omega) (by omega) (by omega) (by omega) r h
  have FC := fun r h w1 => kFitsT x1 x2 z1 z2 w1 (by omega) (by omega) (by omega) (by omega) (by omega) (by omega) (by omega) (by omega) r h
  have os := ordEq (a := s1) (b := s1) (by omega) (by omega) rfl
  have os' := ordEq (a := s2) (b := s2) (by omega) (by omega) rfl
  have ox := ordEq (a := x1) (b := x1) (by omega) (by omega) rfl
  have ox' := ordEq (a := x2) (b := x2) (by omega) (by omega) rfl
  have o0 := ordZ_eq
  have hop0 := csub_fl (a := x1) (b := x2) (c := m1) (d := m2) (by omega) (by omega) (by omega) (by omega) (by omega) (by omega) (by omega) (by omega)
  rw [hd1, hd2] at hop0
  have hop := fun t w => run_complex_sum (P := Try.prog) w .sub (Or.inr rfl) t .f64 _ _ _ _ _ _ hop0
  clear hop0
  have KA := Lib.hid (FA true (decide_eq_true (by omega)))
  have KD := Lib.hid (FD true (decide_eq_true (by omega)))
  have KB := Lib.hid (FB true (decide_eq_true (by omega)))
  have KC := Lib.hid (FC true (decide_eq_true (by omega)))
  have om := ordZ_eqC (m := m1) (by omega)
  have om2 := ordZ_eqC (m := m2) (by omega)
  clear FA FB FC FD
  clear hm1 hm2 hd1 hd2 hs1 hs2 hk1 hk2 hl1 hl2 hn1 hn2 hcase
  go_enter Try.func7, Try.ntmps7
  go_wp2_with fail
  go_quiet ((first | (go_at_call_of 27 (Go.Value.int .i64 p); exact quietL (G1.out _ _)) | (go_at_call_of 27 (Go.Value.int .i64 r); exact quietL (G2.out _ _)) | (go_at_call_of 27 (Go.Value.int .i64 t); exact quietL (G3.out _ _))))
  go_wp2_with fail
  have hb0 : ∀ n (X Y V : Array Go.Value), Below w.heap.size w ((((w.alloc (.cells X 33)).alloc (.cells Y 33)).alloc (.cells V 33)).drewN n) := fun n X Y V => by
    have := (((Below.refl w.heap.size w).alloc (Nat.le_refl _) (.cells X 33)).alloc (by simp) (.cells Y 33)).alloc (by simp; omega) (.cells V 33)
    exact ⟨this.os, this.tape, this.output, this.size, this.block⟩
  refine (e1.out _ _ (by simp)).mono ?_
  rintro e w1 ⟨rfl, rfl⟩
  go_wp2_with fail
  refine (e2.out _ _ (by simp)).mono ?_
  rintro e w1 ⟨rfl, rfl⟩
  go_wp2_with fail
  refine (e3.out _ _ (by simp)).mono ?_
  rintro e w1 ⟨rfl, rfl⟩
  go_wp2_with fail
  refine (e4.out _ _ (by simp)).mono ?_
  rintro e w1 ⟨rfl, rfl⟩
  go_wp2_with fail
  refine (e5.out _ _ (by simp)).mono ?_
  rintro e w1 ⟨rfl, rfl⟩
  go_wp2_with fail
  refine (e6.out _ _ (by simp)).mono ?_
  rintro e w1 ⟨rfl, rfl⟩
  go_wp2_with fail
  refine (e7.out _).mono ?_
  rintro e w1 ⟨rfl, rfl⟩
  go_wp2_with fail
  refine (e8.out _).mono ?_
  rintro e w1 ⟨rfl, rfl⟩
  go_wp2_with fail
  refine (e9.out _).mono ?_
  rintro e w1 ⟨rfl, rfl⟩
  go_wp2_with fail
  refine (KA.out _).mono ?_
  rintro e w1 ⟨rfl, rfl⟩
  go_wp2_with fail
  refine (e10.out _ _ (by simp)).mono ?_
  rintro e w1 ⟨rfl, rfl⟩
  go_wp2_with fail
  refine (e11.out _ _ (by simp)).mono ?_
  rintro e w1 ⟨rfl, rfl⟩
  go_wp2_with fail
  refine (KD.out _).mono ?_
  rintro e w1 ⟨rfl, rfl⟩
  go_wp2_with fail
  refine (KA.out _).mono ?_
  rintro e w1 ⟨rfl, rfl⟩
  go_wp2_with fail
  refine (KA.out _).mono ?_
  rintro e w1 ⟨rfl, rfl⟩
  go_wp2_with fail
  refine (KB.out _).mono ?_
  rintro e w1 ⟨rfl, rfl⟩
  go_wp2_with fail
  refine (KC.out _).mono ?_
  rintro e w1 ⟨rfl, rfl⟩
  go_wp2_with fail
  refine (kAwake28 _).mono ?_
  rintro e w9 ⟨rfl, hb9⟩
  go_wp2_with fail
  go_ret
  refine ⟨rfl, Below.trans ?_ (hb9.mono (by simp; omega))⟩
  repeat (first | exact hb0 _ _ _ _ | (refine Below.alloc ?_ (by simp; omega) _))
set_option maxRecDepth 100000 in
set_option maxHeartbeats 4000000 in
theorem kFitsCase1 (p q r s t u : Int) (w : World) (hcase : (nearM p ≤ nearM r ∧ nearM q ≤ nearM s) ∧ ((nearM p + nearM p ≤ nearM r ∧ nearM q + nearM q ≤ nearM s)) ∧ (¬ (nearM r ≤ nearM t ∧ nearM s ≤ nearM u))) :
    Calls Try.prog 7 #[.agg #[.int .i64 p, .int .i64 q], .agg #[.int .i64 r, .int .i64 s], .agg #[.int .i64 t, .int .i64 u]] w fun e w' => e = .returned (.bool true) ∧ Below w.heap.size w w' := by
  have hbx1 := nearM_bd p
  have hbx2 := nearM_bd q
  have hby1 := nearM_bd r
  have hby2 := nearM_bd s
  have hbz1 := nearM_bd t
  have hbz2 := nearM_bd u
  have G1 := Lib.hid (fun w1 n => kOf p q (World.drewN w1 n))
  have G2 := Lib.hid (fun w1 n => kOf r s (World.drewN w1 n))
  have G3 := Lib.hid (fun w1 n => kOf t u (World.drewN w1 n))
  generalize nearM p = x1 at *
  generalize nearM q = x2 at *
  generalize nearM r = y1 at *
  generalize nearM s = y2 at *
  generalize nearM t = z1 at *
  generalize nearM u = z2 at *
  obtain ⟨hbx1, hbx1'⟩ := hbx1
  obtain ⟨hbx2, hbx2'⟩ := hbx2
  obtain ⟨hby1, hby1'⟩ := hby1
  obtain ⟨hby2, hby2'⟩ := hby2
  obtain ⟨hbz1, hbz1'⟩ := hbz1
  obtain ⟨hbz2, hbz2'⟩ := hbz2
  obtain ⟨m1, hm1⟩ : ∃ m, max (x1 - y1) 0 = m := ⟨_, rfl⟩
  obtain ⟨m2, hm2⟩ : ∃ m, max (x2 - y2) 0 = m := ⟨_, rfl⟩
  obtain ⟨d1, hd1⟩ : ∃ d, x1 - m1 = d := ⟨_, rfl⟩
  obtain ⟨d2, hd2⟩ : ∃ d, x2 - m2 = d := ⟨_, rfl⟩
  obtain ⟨s1, hs1⟩ : ∃ m, x1 + y1 + z1 = m := ⟨_, rfl⟩
  obtain ⟨s2, hs2⟩ : ∃ m, x2 + y2 + z2 = m := ⟨_, rfl⟩
  obtain ⟨k1, hk1⟩ : ∃ m, x1 + y1 = m := ⟨_, rfl⟩
  obtain ⟨k2, hk2⟩ : ∃ m, x2 + y2 = m := ⟨_, rfl⟩
  obtain ⟨l1, hl1⟩ : ∃ m, y1 + z1 = m := ⟨_, rfl⟩
  obtain ⟨l2, hl2⟩ : ∃ m, y2 + z2 = m := ⟨_, rfl⟩
  obtain ⟨n1, hn1⟩ : ∃ m, x1 + x1 = m := ⟨_, rfl⟩
  obtain ⟨n2, hn2⟩ : ∃ m, x2 + x2 = m := ⟨_, rfl⟩
  have e1 := Lib.hid (fun w1 B (hB : (World.heap w1).size = B) => kSum3B x1 x2 y1 y2 z1 z2 36 (by omega) (by omega) (by omega) (by omega) (by omega) (by omega) s1 s2 (by omega) (by omega) w1 B hB)
  have e2 := Lib.hid (fun w1 B (hB : (World.heap w1).size = B) => kSum3B z1 z2 x1 x2 y1 y2 36 (by omega) (by omega) (by omega) (by omega) (by omega) (by omega) s1 s2 (by omega) (by omega) w1 B hB)
  have e3 := Lib.hid (fun w1 B (hB : (World.heap w1).size = B) => kSum2B x1 x2 y1 y2 36 (by omega) (by omega) (by omega) (by omega) k1 k2 (by omega) (by omega) w1 B hB)
  have e4 := Lib.hid (fun w1 B (hB : (World.heap w1).size = B) => kSum2B k1 k2 z1 z2 36 (by omega) (by omega) (by omega) (by omega) s1 s2 (by omega) (by omega) w1 B hB)
  have e5 := Lib.hid (fun w1 B (hB : (World.heap w1).size = B) => kSum2B y1 y2 z1 z2 36 (by omega) (by omega) (by omega) (by omega) l1 l2 (by omega) (by omega) w1 B hB)
  have e6 := Lib.hid (fun w1 B (hB : (World.heap w1).size = B) => kSum2B x1 x2 l1 l2 36 (by omega) (by omega) (by omega) (by omega) s1 s2 (by omega) (by omega) w1 B hB)
  have e7 := Lib.hid (fun w1 => kSumNil w1)
  have e8 := Lib.hid (fun w1 => kOver x1 x2 y1 y2 w1 (by omega) (by omega) (by omega) (by omega) (by omega) (by omega) (by omega) (by omega) m1 m2 hm1 hm2)
  have e9 := Lib.hid (fun w1 => kFitsT d1 d2 y1 y2 w1 (by omega) (by omega) (by omega) (by omega) (by omega) (by omega) (by omega) (by omega) true (decide_eq_true (by omega)))
  have e10 := Lib.hid (fun w1 B (hB : (World.heap w1).size = B) => kSum2B d1 d2 m1 m2 36 (by omega) (by omega) (by omega) (by omega) x1 x2 (by omega) (by omega) w1 B hB)
  have e11 := Lib.hid (fun w1 B (hB : (World.heap w1).size = B) => kSum2B x1 x2 x1 x2 36 (by omega) (by omega) (by omega) (by omega) n1 n2 (by omega) (by omega) w1 B hB)
  have FA := fun r h w1 => kFitsT x1 x2 y1 y2 w1 (by omega) (by omega) (by omega) (by omega) (by omega) (by omega) (by omega) (by omega) r h
  have FD := fun r h w1 => kFitsT n1 n2 y1 y2 w1 (by omega) (by omega) (by omega) (by omega) (by omega) (by omega) (by omega) (by omega) r h
  have FB := fun r h w1 => kFitsT y1 y2 z1 z2 w1 (by omega) (by omega) (by omega) (by omega) (by omega) (by omega) (by omega) (by omega) r h
  have FC := fun r h w1 => kFitsT x1 x2 z1 z2 w1 (by omega) (by omega) (by omega) (by omega) (by omega) (by omega) (by omega) (by omega) r h
  have os := ordEq (a := s1) (b := s1) (by omega) (by omega) rfl
  have os' := ordEq (a := s2) (b := s2) (by omega) (by omega) rfl
  have ox := ordEq (a := x1) (b := x1) (by omega) (by omega) rfl
  have ox' := ordEq (a := x2) (b := x2) (by omega) (by omega) rfl
  have o0 := ordZ_eq
  have hop0 := csub_fl (a := x1) (b := x2) (c := m1) (d := m2) (by omega) (by omega) (by omega) (by omega) (by omega) (by omega) (by omega) (by omega)
  rw [hd1, hd2] at hop0
  have hop := fun t w => run_complex_sum (P := Try.prog) w .sub (Or.inr rfl) t .f64 _ _ _ _ _ _ hop0
  clear hop0
  have KA := Lib.hid (FA true (decide_eq_true (by omega)))
  have KD := Lib.hid (FD true (decide_eq_true (by omega)))
  have KB := Lib.hid (FB false (decide_eq_false (by omega)))
  have om := ordZ_eqC (m := m1) (by omega)
  have om2 := ordZ_eqC (m := m2) (by omega)
  clear FA FB FC FD
  clear hm1 hm2 hd1 hd2 hs1 hs2 hk1 hk2 hl1 hl2 hn1 hn2 hcase
  go_enter Try.func7, Try.ntmps7
  go_wp2_with fail
  go_quiet ((first | (go_at_call_of 27 (Go.Value.int .i64 p); exact quietL (G1.out _ _)) | (go_at_call_of 27 (Go.Value.int .i64 r); exact quietL (G2.out _ _)) | (go_at_call_of 27 (Go.Value.int .i64 t); exact quietL (G3.out _ _))))
  go_wp2_with fail
  have hb0 : ∀ n (X Y V : Array Go.Value), Below w.heap.size w ((((w.alloc (.cells X 33)).alloc (.cells Y 33)).alloc (.cells V 33)).drewN n) := fun n X Y V => by
    have := (((Below.refl w.heap.size w).alloc (Nat.le_refl _) (.cells X 33)).alloc (by simp) (.cells Y 33)).alloc (by simp; omega) (.cells V 33)
    exact ⟨this.os, this.tape, this.output, this.size, this.block⟩
  refine (e1.out _ _ (by simp)).mono ?_
  rintro e w1 ⟨rfl, rfl⟩
  go_wp2_with fail
  refine (e2.out _ _ (by simp)).mono ?_
  rintro e w1 ⟨rfl, rfl⟩
  go_wp2_with fail
  refine (e3.out _ _ (by simp)).mono ?_
  rintro e w1 ⟨rfl, rfl⟩
  go_wp2_with fail
  refine (e4.out _ _ (by simp)).mono ?_
  rintro e w1 ⟨rfl, rfl⟩
  go_wp2_with fail
  refine (e5.out _ _ (by simp)).mono ?_
  rintro e w1 ⟨rfl, rfl⟩
  go_wp2_with fail
  refine (e6.out _ _ (by simp)).mono ?_
  rintro e w1 ⟨rfl, rfl⟩
  go_wp2_with fail
  refine (e7.out _).mono ?_
  rintro e w1 ⟨rfl, rfl⟩
  go_wp2_with fail
  refine (e8.out _).mono ?_
  rintro e w1 ⟨rfl, rfl⟩
  go_wp2_with fail
  refine (e9.out _).mono ?_
  rintro e w1 ⟨rfl, rfl⟩
  go_wp2_with fail
  refine (KA.out _).mono ?_
  rintro e w1 ⟨rfl, rfl⟩
  go_wp2_with fail
  refine (e10.out _ _ (by simp)).mono ?_
  rintro e w1 ⟨rfl, rfl⟩
  go_wp2_with fail
  refine (e11.out _ _ (by simp)).mono ?_
  rintro e w1 ⟨rfl, rfl⟩
  go_wp2_with fail
  refine (KD.out _).mono ?_
  rintro e w1 ⟨rfl, rfl⟩
  go_wp2_with fail
  refine (KA.out _).mono ?_
  rintro e w1 ⟨rfl, rfl⟩
  go_wp2_with fail
  refine (KA.out _).mono ?_
  rintro e w1 ⟨rfl, rfl⟩
  go_wp2_with fail
  refine (KB.out _).mono ?_
  rintro e w1 ⟨rfl, rfl⟩
  go_wp2_with fail
  refine (kAwake28 _).mono ?_
  rintro e w9 ⟨rfl, hb9⟩
  go_wp2_with fail
  go_ret
  refine ⟨rfl, Below.trans ?_ (hb9.mono (by simp; omega))⟩
  repeat (first | exact hb0 _ _ _ _ | (refine Below.alloc ?_ (by simp; omega) _))
set_option maxRecDepth 100000 in
set_option maxHeartbeats 4000000 in
theorem kFitsCase2 (p q r s t u : Int) (w : World) (hcase : (nearM p ≤ nearM r ∧ nearM q ≤ nearM s) ∧ (¬ (nearM p + nearM p ≤ nearM r ∧ nearM q + nearM q ≤ nearM s)) ∧ ((nearM r ≤ nearM t ∧ nearM s ≤ nearM u))) :
    Calls Try.prog 7 #[.agg #[.int .i64 p, .int .i64 q], .agg #[.int .i64 r, .int .i64 s], .agg #[.int .i64 t, .int .i64 u]] w fun e w' => e = .returned (.bool true) ∧ Below w.heap.size w w' := by
  have hbx1 := nearM_bd p
  have hbx2 := nearM_bd q
  have hby1 := nearM_bd r
  have hby2 := nearM_bd s
  have hbz1 := nearM_bd t
  have hbz2 := nearM_bd u
  have G1 := Lib.hid (fun w1 n => kOf p q (World.drewN w1 n))
  have G2 := Lib.hid (fun w1 n => kOf r s (World.drewN w1 n))
  have G3 := Lib.hid (fun w1 n => kOf t u (World.drewN w1 n))
  generalize nearM p = x1 at *
  generalize nearM q = x2 at *
  generalize nearM r = y1 at *
  generalize nearM s = y2 at *
  generalize nearM t = z1 at *
  generalize nearM u = z2 at *
  obtain ⟨hbx1, hbx1'⟩ := hbx1
  obtain ⟨hbx2, hbx2'⟩ := hbx2
  obtain ⟨hby1, hby1'⟩ := hby1
  obtain ⟨hby2, hby2'⟩ := hby2
  obtain ⟨hbz1, hbz1'⟩ := hbz1
  obtain ⟨hbz2, hbz2'⟩ := hbz2
  obtain ⟨m1, hm1⟩ : ∃ m, max (x1 - y1) 0 = m := ⟨_, rfl⟩
  obtain ⟨m2, hm2⟩ : ∃ m, max (x2 - y2) 0 = m := ⟨_, rfl⟩
  obtain ⟨d1, hd1⟩ : ∃ d, x1 - m1 = d := ⟨_, rfl⟩
  obtain ⟨d2, hd2⟩ : ∃ d, x2 - m2 = d := ⟨_, rfl⟩
  obtain ⟨s1, hs1⟩ : ∃ m, x1 + y1 + z1 = m := ⟨_, rfl⟩
  obtain ⟨s2, hs2⟩ : ∃ m, x2 + y2 + z2 = m := ⟨_, rfl⟩
  obtain ⟨k1, hk1⟩ : ∃ m, x1 + y1 = m := ⟨_, rfl⟩
  obtain ⟨k2, hk2⟩ : ∃ m, x2 + y2 = m := ⟨_, rfl⟩
  obtain ⟨l1, hl1⟩ : ∃ m, y1 + z1 = m := ⟨_, rfl⟩
  obtain ⟨l2, hl2⟩ : ∃ m, y2 + z2 = m := ⟨_, rfl⟩
  obtain ⟨n1, hn1⟩ : ∃ m, x1 + x1 = m := ⟨_, rfl⟩
  obtain ⟨n2, hn2⟩ : ∃ m, x2 + x2 = m := ⟨_, rfl⟩
  have e1 := Lib.hid (fun w1 B (hB : (World.heap w1).size = B) => kSum3B x1 x2 y1 y2 z1 z2 36 (by omega) (by omega) (by omega) (by omega) (by omega) (by omega) s1 s2 (by omega) (by omega) w1 B hB)
  have e2 := Lib.hid (fun w1 B (hB : (World.heap w1).size = B) => kSum3B z1 z2 x1 x2 y1 y2 36 (by omega) (by omega) (by omega) (by omega) (by omega) (by omega) s1 s2 (by omega) (by omega) w1 B hB)
  have e3 := Lib.hid (fun w1 B (hB : (World.heap w1).size = B) => kSum2B x1 x2 y1 y2 36 (by omega) (by omega) (by omega) (by omega) k1 k2 (by omega) (by omega) w1 B hB)
  have e4 := Lib.hid (fun w1 B (hB : (World.heap w1).size = B) => kSum2B k1 k2 z1 z2 36 (by omega) (by omega) (by omega) (by omega) s1 s2 (by omega) (by omega) w1 B hB)
  have e5 := Lib.hid (fun w1 B (hB : (World.heap w1).size = B) => kSum2B y1 y2 z1 z2 36 (by omega) (by omega) (by omega) (by omega) l1 l2 (by omega) (by omega) w1 B hB)
  have e6 := Lib.hid (fun w1 B (hB : (World.heap w1).size = B) => kSum2B x1 x2 l1 l2 36 (by omega) (by omega) (by omega) (by omega) s1 s2 (by omega) (by omega) w1 B hB)
  have e7 := Lib.hid (fun w1 => kSumNil w1)
  have e8 := Lib.hid (fun w1 => kOver x1 x2 y1 y2 w1 (by omega) (by omega) (by omega) (by omega) (by omega) (by omega) (by omega) (by omega) m1 m2 hm1 hm2)
  have e9 := Lib.hid (fun w1 => kFitsT d1 d2 y1 y2 w1 (by omega) (by omega) (by omega) (by omega) (by omega) (by omega) (by omega) (by omega) true (decide_eq_true (by omega)))
  have e10 := Lib.hid (fun w1 B (hB : (World.heap w1).size = B) => kSum2B d1 d2 m1 m2 36 (by omega) (by omega) (by omega) (by omega) x1 x2 (by omega) (by omega) w1 B hB)
  have e11 := Lib.hid (fun w1 B (hB : (World.heap w1).size = B) => kSum2B x1 x2 x1 x2 36 (by omega) (by omega) (by omega) (by omega) n1 n2 (by omega) (by omega) w1 B hB)
  have FA := fun r h w1 => kFitsT x1 x2 y1 y2 w1 (by omega) (by omega) (by omega) (by omega) (by omega) (by omega) (by omega) (by omega) r h
  have FD := fun r h w1 => kFitsT n1 n2 y1 y2 w1 (by omega) (by omega) (by omega) (by omega) (by omega) (by omega) (by omega) (by omega) r h
  have FB := fun r h w1 => kFitsT y1 y2 z1 z2 w1 (by omega) (by omega) (by omega) (by omega) (by omega) (by omega) (by omega) (by omega) r h
  have FC := fun r h w1 => kFitsT x1 x2 z1 z2 w1 (by omega) (by omega) (by omega) (by omega) (by omega) (by omega) (by omega) (by omega) r h
  have os := ordEq (a := s1) (b := s1) (by omega) (by omega) rfl
  have os' := ordEq (a := s2) (b := s2) (by omega) (by omega) rfl
  have ox := ordEq (a := x1) (b := x1) (by omega) (by omega) rfl
  have ox' := ordEq (a := x2) (b := x2) (by omega) (by omega) rfl
  have o0 := ordZ_eq
  have hop0 := csub_fl (a := x1) (b := x2) (c := m1) (d := m2) (by omega) (by omega) (by omega) (by omega) (by omega) (by omega) (by omega) (by omega)
  rw [hd1, hd2] at hop0
  have hop := fun t w => run_complex_sum (P := Try.prog) w .sub (Or.inr rfl) t .f64 _ _ _ _ _ _ hop0
  clear hop0
  have KA := Lib.hid (FA true (decide_eq_true (by omega)))
  have KD := Lib.hid (FD false (decide_eq_false (by omega)))
  have KB := Lib.hid (FB true (decide_eq_true (by omega)))
  have KC := Lib.hid (FC true (decide_eq_true (by omega)))
  have om := ordZ_eqC (m := m1) (by omega)
  have om2 := ordZ_eqC (m := m2) (by omega)
  clear FA FB FC FD
  clear hm1 hm2 hd1 hd2 hs1 hs2 hk1 hk2 hl1 hl2 hn1 hn2 hcase
  go_enter Try.func7, Try.ntmps7
  go_wp2_with fail
  go_quiet ((first | (go_at_call_of 27 (Go.Value.int .i64 p); exact quietL (G1.out _ _)) | (go_at_call_of 27 (Go.Value.int .i64 r); exact quietL (G2.out _ _)) | (go_at_call_of 27 (Go.Value.int .i64 t); exact quietL (G3.out _ _))))
  go_wp2_with fail
  have hb0 : ∀ n (X Y V : Array Go.Value), Below w.heap.size w ((((w.alloc (.cells X 33)).alloc (.cells Y 33)).alloc (.cells V 33)).drewN n) := fun n X Y V => by
    have := (((Below.refl w.heap.size w).alloc (Nat.le_refl _) (.cells X 33)).alloc (by simp) (.cells Y 33)).alloc (by simp; omega) (.cells V 33)
    exact ⟨this.os, this.tape, this.output, this.size, this.block⟩
  refine (e1.out _ _ (by simp)).mono ?_
  rintro e w1 ⟨rfl, rfl⟩
  go_wp2_with fail
  refine (e2.out _ _ (by simp)).mono ?_
  rintro e w1 ⟨rfl, rfl⟩
  go_wp2_with fail
  refine (e3.out _ _ (by simp)).mono ?_
  rintro e w1 ⟨rfl, rfl⟩
  go_wp2_with fail
  refine (e4.out _ _ (by simp)).mono ?_
  rintro e w1 ⟨rfl, rfl⟩
  go_wp2_with fail
  refine (e5.out _ _ (by simp)).mono ?_
  rintro e w1 ⟨rfl, rfl⟩
  go_wp2_with fail
  refine (e6.out _ _ (by simp)).mono ?_
  rintro e w1 ⟨rfl, rfl⟩
  go_wp2_with fail
  refine (e7.out _).mono ?_
  rintro e w1 ⟨rfl, rfl⟩
  go_wp2_with fail
  refine (e8.out _).mono ?_
  rintro e w1 ⟨rfl, rfl⟩
  go_wp2_with fail
  refine (e9.out _).mono ?_
  rintro e w1 ⟨rfl, rfl⟩
  go_wp2_with fail
  refine (KA.out _).mono ?_
  rintro e w1 ⟨rfl, rfl⟩
  go_wp2_with fail
  refine (e10.out _ _ (by simp)).mono ?_
  rintro e w1 ⟨rfl, rfl⟩
  go_wp2_with fail
  refine (e11.out _ _ (by simp)).mono ?_
  rintro e w1 ⟨rfl, rfl⟩
  go_wp2_with fail
  refine (KD.out _).mono ?_
  rintro e w1 ⟨rfl, rfl⟩
  go_wp2_with fail
  refine (KA.out _).mono ?_
  rintro e w1 ⟨rfl, rfl⟩
  go_wp2_with fail
  refine (KB.out _).mono ?_
  rintro e w1 ⟨rfl, rfl⟩
  go_wp2_with fail
  refine (KC.out _).mono ?_
  rintro e w1 ⟨rfl, rfl⟩
  go_wp2_with fail
  refine (kAwake28 _).mono ?_
  rintro e w9 ⟨rfl, hb9⟩
  go_wp2_with fail
  go_ret
  refine ⟨rfl, Below.trans ?_ (hb9.mono (by simp; omega))⟩
  repeat (first | exact hb0 _ _ _ _ | (refine Below.alloc ?_ (by simp; omega) _))
set_option maxRecDepth 100000 in
set_option maxHeartbeats 4000000 in
theorem kFitsCase3 (p q r s t u : Int) (w : World) (hcase : (nearM p ≤ nearM r ∧ nearM q ≤ nearM s) ∧ (¬ (nearM p + nearM p ≤ nearM r ∧ nearM q + nearM q ≤ nearM s)) ∧ (¬ (nearM r ≤ nearM t ∧ nearM s ≤ nearM u))) :
    Calls Try.prog 7 #[.agg #[.int .i64 p, .int .i64 q], .agg #[.int .i64 r, .int .i64 s], .agg #[.int .i64 t, .int .i64 u]] w fun e w' => e = .returned (.bool true) ∧ Below w.heap.size w w' := by
  have hbx1 := nearM_bd p
  have hbx2 := nearM_bd q
  have hby1 := nearM_bd r
  have hby2 := nearM_bd s
  have hbz1 := nearM_bd t
  have hbz2 := nearM_bd u
  have G1 := Lib.hid (fun w1 n => kOf p q (World.drewN w1 n))
  have G2 := Lib.hid (fun w1 n => kOf r s (World.drewN w1 n))
  have G3 := Lib.hid (fun w1 n => kOf t u (World.drewN w1 n))
  generalize nearM p = x1 at *
  generalize nearM q = x2 at *
  generalize nearM r = y1 at *
  generalize nearM s = y2 at *
  generalize nearM t = z1 at *
  generalize nearM u = z2 at *
  obtain ⟨hbx1, hbx1'⟩ := hbx1
  obtain ⟨hbx2, hbx2'⟩ := hbx2
  obtain ⟨hby1, hby1'⟩ := hby1
  obtain ⟨hby2, hby2'⟩ := hby2
  obtain ⟨hbz1, hbz1'⟩ := hbz1
  obtain ⟨hbz2, hbz2'⟩ := hbz2
  obtain ⟨m1, hm1⟩ : ∃ m, max (x1 - y1) 0 = m := ⟨_, rfl⟩
  obtain ⟨m2, hm2⟩ : ∃ m, max (x2 - y2) 0 = m := ⟨_, rfl⟩
  obtain ⟨d1, hd1⟩ : ∃ d, x1 - m1 = d := ⟨_, rfl⟩
  obtain ⟨d2, hd2⟩ : ∃ d, x2 - m2 = d := ⟨_, rfl⟩
  obtain ⟨s1, hs1⟩ : ∃ m, x1 + y1 + z1 = m := ⟨_, rfl⟩
  obtain ⟨s2, hs2⟩ : ∃ m, x2 + y2 + z2 = m := ⟨_, rfl⟩
  obtain ⟨k1, hk1⟩ : ∃ m, x1 + y1 = m := ⟨_, rfl⟩
  obtain ⟨k2, hk2⟩ : ∃ m, x2 + y2 = m := ⟨_, rfl⟩
  obtain ⟨l1, hl1⟩ : ∃ m, y1 + z1 = m := ⟨_, rfl⟩
  obtain ⟨l2, hl2⟩ : ∃ m, y2 + z2 = m := ⟨_, rfl⟩
  obtain ⟨n1, hn1⟩ : ∃ m, x1 + x1 = m := ⟨_, rfl⟩
  obtain ⟨n2, hn2⟩ : ∃ m, x2 + x2 = m := ⟨_, rfl⟩
  have e1 := Lib.hid (fun w1 B (hB : (World.heap w1).size = B) => kSum3B x1 x2 y1 y2 z1 z2 36 (by omega) (by omega) (by omega) (by omega) (by omega) (by omega) s1 s2 (by omega) (by omega) w1 B hB)
  have e2 := Lib.hid (fun w1 B (hB : (World.heap w1).size = B) => kSum3B z1 z2 x1 x2 y1 y2 36 (by omega) (by omega) (by omega) (by omega) (by omega) (by omega) s1 s2 (by omega) (by omega) w1 B hB)
  have e3 := Lib.hid (fun w1 B (hB : (World.heap w1).size = B) => kSum2B x1 x2 y1 y2 36 (by omega) (by omega) (by omega) (by omega) k1 k2 (by omega) (by omega) w1 B hB)
  have e4 := Lib.hid (fun w1 B (hB : (World.heap w1).size = B) => kSum2B k1 k2 z1 z2 36 (by omega) (by omega) (by omega) (by omega) s1 s2 (by omega) (by omega) w1 B hB)
  have e5 := Lib.hid (fun w1 B (hB : (World.heap w1).size = B) => kSum2B y1 y2 z1 z2 36 (by omega) (by omega) (by omega) (by omega) l1 l2 (by omega) (by omega) w1 B hB)
  have e6 := Lib.hid (fun w1 B (hB : (World.heap w1).size = B) => kSum2B x1 x2 l1 l2 36 (by omega) (by omega) (by omega) (by omega) s1 s2 (by omega) (by omega) w1 B hB)
  have e7 := Lib.hid (fun w1 => kSumNil w1)
  have e8 := Lib.hid (fun w1 => kOver x1 x2 y1 y2 w1 (by omega) (by omega) (by omega) (by omega) (by omega) (by omega) (by omega) (by omega) m1 m2 hm1 hm2)
  have e9 := Lib.hid (fun w1 => kFitsT d1 d2 y1 y2 w1 (by omega) (by omega) (by omega) (by omega) (by omega) (by omega) (by omega) (by omega) true (decide_eq_true (by omega)))
  have e10 := Lib.hid (fun w1 B (hB : (World.heap w1).size = B) => kSum2B d1 d2 m1 m2 36 (by omega) (by omega) (by omega) (by omega) x1 x2 (by omega) (by omega) w1 B hB)
  have e11 := Lib.hid (fun w1 B (hB : (World.heap w1).size = B) => kSum2B x1 x2 x1 x2 36 (by omega) (by omega) (by omega) (by omega) n1 n2 (by omega) (by omega) w1 B hB)
  have FA := fun r h w1 => kFitsT x1 x2 y1 y2 w1 (by omega) (by omega) (by omega) (by omega) (by omega) (by omega) (by omega) (by omega) r h
  have FD := fun r h w1 => kFitsT n1 n2 y1 y2 w1 (by omega) (by omega) (by omega) (by omega) (by omega) (by omega) (by omega) (by omega) r h
  have FB := fun r h w1 => kFitsT y1 y2 z1 z2 w1 (by omega) (by omega) (by omega) (by omega) (by omega) (by omega) (by omega) (by omega) r h
  have FC := fun r h w1 => kFitsT x1 x2 z1 z2 w1 (by omega) (by omega) (by omega) (by omega) (by omega) (by omega) (by omega) (by omega) r h
  have os := ordEq (a := s1) (b := s1) (by omega) (by omega) rfl
  have os' := ordEq (a := s2) (b := s2) (by omega) (by omega) rfl
  have ox := ordEq (a := x1) (b := x1) (by omega) (by omega) rfl
  have ox' := ordEq (a := x2) (b := x2) (by omega) (by omega) rfl
  have o0 := ordZ_eq
  have hop0 := csub_fl (a := x1) (b := x2) (c := m1) (d := m2) (by omega) (by omega) (by omega) (by omega) (by omega) (by omega) (by omega) (by omega)
  rw [hd1, hd2] at hop0
  have hop := fun t w => run_complex_sum (P := Try.prog) w .sub (Or.inr rfl) t .f64 _ _ _ _ _ _ hop0
  clear hop0
  have KA := Lib.hid (FA true (decide_eq_true (by omega)))
  have KD := Lib.hid (FD false (decide_eq_false (by omega)))
  have KB := Lib.hid (FB false (decide_eq_false (by omega)))
  have om := ordZ_eqC (m := m1) (by omega)
  have om2 := ordZ_eqC (m := m2) (by omega)
  clear FA FB FC FD
  clear hm1 hm2 hd1 hd2 hs1 hs2 hk1 hk2 hl1 hl2 hn1 hn2 hcase
  go_enter Try.func7, Try.ntmps7
  go_wp2_with fail
  go_quiet ((first | (go_at_call_of 27 (Go.Value.int .i64 p); exact quietL (G1.out _ _)) | (go_at_call_of 27 (Go.Value.int .i64 r); exact quietL (G2.out _ _)) | (go_at_call_of 27 (Go.Value.int .i64 t); exact quietL (G3.out _ _))))
  go_wp2_with fail
  have hb0 : ∀ n (X Y V : Array Go.Value), Below w.heap.size w ((((w.alloc (.cells X 33)).alloc (.cells Y 33)).alloc (.cells V 33)).drewN n) := fun n X Y V => by
    have := (((Below.refl w.heap.size w).alloc (Nat.le_refl _) (.cells X 33)).alloc (by simp) (.cells Y 33)).alloc (by simp; omega) (.cells V 33)
    exact ⟨this.os, this.tape, this.output, this.size, this.block⟩
  refine (e1.out _ _ (by simp)).mono ?_
  rintro e w1 ⟨rfl, rfl⟩
  go_wp2_with fail
  refine (e2.out _ _ (by simp)).mono ?_
  rintro e w1 ⟨rfl, rfl⟩
  go_wp2_with fail
  refine (e3.out _ _ (by simp)).mono ?_
  rintro e w1 ⟨rfl, rfl⟩
  go_wp2_with fail
  refine (e4.out _ _ (by simp)).mono ?_
  rintro e w1 ⟨rfl, rfl⟩
  go_wp2_with fail
  refine (e5.out _ _ (by simp)).mono ?_
  rintro e w1 ⟨rfl, rfl⟩
  go_wp2_with fail
  refine (e6.out _ _ (by simp)).mono ?_
  rintro e w1 ⟨rfl, rfl⟩
  go_wp2_with fail
  refine (e7.out _).mono ?_
  rintro e w1 ⟨rfl, rfl⟩
  go_wp2_with fail
  refine (e8.out _).mono ?_
  rintro e w1 ⟨rfl, rfl⟩
  go_wp2_with fail
  refine (e9.out _).mono ?_
  rintro e w1 ⟨rfl, rfl⟩
  go_wp2_with fail
  refine (KA.out _).mono ?_
  rintro e w1 ⟨rfl, rfl⟩
  go_wp2_with fail
  refine (e10.out _ _ (by simp)).mono ?_
  rintro e w1 ⟨rfl, rfl⟩
  go_wp2_with fail
  refine (e11.out _ _ (by simp)).mono ?_
  rintro e w1 ⟨rfl, rfl⟩
  go_wp2_with fail
  refine (KD.out _).mono ?_
  rintro e w1 ⟨rfl, rfl⟩
  go_wp2_with fail
  refine (KA.out _).mono ?_
  rintro e w1 ⟨rfl, rfl⟩
  go_wp2_with fail
  refine (KB.out _).mono ?_
  rintro e w1 ⟨rfl, rfl⟩
  go_wp2_with fail
  refine (kAwake28 _).mono ?_
  rintro e w9 ⟨rfl, hb9⟩
  go_wp2_with fail
  go_ret
  refine ⟨rfl, Below.trans ?_ (hb9.mono (by simp; omega))⟩
  repeat (first | exact hb0 _ _ _ _ | (refine Below.alloc ?_ (by simp; omega) _))
set_option maxRecDepth 100000 in
set_option maxHeartbeats 4000000 in
theorem kFitsCase4 (p q r s t u : Int) (w : World) (hcase : (nearM r < nearM p)) :
    Calls Try.prog 7 #[.agg #[.int .i64 p, .int .i64 q], .agg #[.int .i64 r, .int .i64 s], .agg #[.int .i64 t, .int .i64 u]] w fun e w' => e = .returned (.bool true) ∧ Below w.heap.size w w' := by
  have hbx1 := nearM_bd p
  have hbx2 := nearM_bd q
  have hby1 := nearM_bd r
  have hby2 := nearM_bd s
  have hbz1 := nearM_bd t
  have hbz2 := nearM_bd u
  have G1 := Lib.hid (fun w1 n => kOf p q (World.drewN w1 n))
  have G2 := Lib.hid (fun w1 n => kOf r s (World.drewN w1 n))
  have G3 := Lib.hid (fun w1 n => kOf t u (World.drewN w1 n))
  generalize nearM p = x1 at *
  generalize nearM q = x2 at *
  generalize nearM r = y1 at *
  generalize nearM s = y2 at *
  generalize nearM t = z1 at *
  generalize nearM u = z2 at *
  obtain ⟨hbx1, hbx1'⟩ := hbx1
  obtain ⟨hbx2, hbx2'⟩ := hbx2
  obtain ⟨hby1, hby1'⟩ := hby1
  obtain ⟨hby2, hby2'⟩ := hby2
  obtain ⟨hbz1, hbz1'⟩ := hbz1
  obtain ⟨hbz2, hbz2'⟩ := hbz2
  obtain ⟨m1, hm1⟩ : ∃ m, max (x1 - y1) 0 = m := ⟨_, rfl⟩
  obtain ⟨m2, hm2⟩ : ∃ m, max (x2 - y2) 0 = m := ⟨_, rfl⟩
  obtain ⟨d1, hd1⟩ : ∃ d, x1 - m1 = d := ⟨_, rfl⟩
  obtain ⟨d2, hd2⟩ : ∃ d, x2 - m2 = d := ⟨_, rfl⟩
  obtain ⟨s1, hs1⟩ : ∃ m, x1 + y1 + z1 = m := ⟨_, rfl⟩
  obtain ⟨s2, hs2⟩ : ∃ m, x2 + y2 + z2 = m := ⟨_, rfl⟩
  obtain ⟨k1, hk1⟩ : ∃ m, x1 + y1 = m := ⟨_, rfl⟩
  obtain ⟨k2, hk2⟩ : ∃ m, x2 + y2 = m := ⟨_, rfl⟩
  obtain ⟨l1, hl1⟩ : ∃ m, y1 + z1 = m := ⟨_, rfl⟩
  obtain ⟨l2, hl2⟩ : ∃ m, y2 + z2 = m := ⟨_, rfl⟩
  obtain ⟨n1, hn1⟩ : ∃ m, x1 + x1 = m := ⟨_, rfl⟩
  obtain ⟨n2, hn2⟩ : ∃ m, x2 + x2 = m := ⟨_, rfl⟩
  have e1 := Lib.hid (fun w1 B (hB : (World.heap w1).size = B) => kSum3B x1 x2 y1 y2 z1 z2 36 (by omega) (by omega) (by omega) (by omega) (by omega) (by omega) s1 s2 (by omega) (by omega) w1 B hB)
  have e2 := Lib.hid (fun w1 B (hB : (World.heap w1).size = B) => kSum3B z1 z2 x1 x2 y1 y2 36 (by omega) (by omega) (by omega) (by omega) (by omega) (by omega) s1 s2 (by omega) (by omega) w1 B hB)
  have e3 := Lib.hid (fun w1 B (hB : (World.heap w1).size = B) => kSum2B x1 x2 y1 y2 36 (by omega) (by omega) (by omega) (by omega) k1 k2 (by omega) (by omega) w1 B hB)
  have e4 := Lib.hid (fun w1 B (hB : (World.heap w1).size = B) => kSum2B k1 k2 z1 z2 36 (by omega) (by omega) (by omega) (by omega) s1 s2 (by omega) (by omega) w1 B hB)
  have e5 := Lib.hid (fun w1 B (hB : (World.heap w1).size = B) => kSum2B y1 y2 z1 z2 36 (by omega) (by omega) (by omega) (by omega) l1 l2 (by omega) (by omega) w1 B hB)
  have e6 := Lib.hid (fun w1 B (hB : (World.heap w1).size = B) => kSum2B x1 x2 l1 l2 36 (by omega) (by omega) (by omega) (by omega) s1 s2 (by omega) (by omega) w1 B hB)
  have e7 := Lib.hid (fun w1 => kSumNil w1)
  have e8 := Lib.hid (fun w1 => kOver x1 x2 y1 y2 w1 (by omega) (by omega) (by omega) (by omega) (by omega) (by omega) (by omega) (by omega) m1 m2 hm1 hm2)
  have e9 := Lib.hid (fun w1 => kFitsT d1 d2 y1 y2 w1 (by omega) (by omega) (by omega) (by omega) (by omega) (by omega) (by omega) (by omega) true (decide_eq_true (by omega)))
  have e10 := Lib.hid (fun w1 B (hB : (World.heap w1).size = B) => kSum2B d1 d2 m1 m2 36 (by omega) (by omega) (by omega) (by omega) x1 x2 (by omega) (by omega) w1 B hB)
  have e11 := Lib.hid (fun w1 B (hB : (World.heap w1).size = B) => kSum2B x1 x2 x1 x2 36 (by omega) (by omega) (by omega) (by omega) n1 n2 (by omega) (by omega) w1 B hB)
  have FA := fun r h w1 => kFitsT x1 x2 y1 y2 w1 (by omega) (by omega) (by omega) (by omega) (by omega) (by omega) (by omega) (by omega) r h
  have FD := fun r h w1 => kFitsT n1 n2 y1 y2 w1 (by omega) (by omega) (by omega) (by omega) (by omega) (by omega) (by omega) (by omega) r h
  have FB := fun r h w1 => kFitsT y1 y2 z1 z2 w1 (by omega) (by omega) (by omega) (by omega) (by omega) (by omega) (by omega) (by omega) r h
  have FC := fun r h w1 => kFitsT x1 x2 z1 z2 w1 (by omega) (by omega) (by omega) (by omega) (by omega) (by omega) (by omega) (by omega) r h
  have os := ordEq (a := s1) (b := s1) (by omega) (by omega) rfl
  have os' := ordEq (a := s2) (b := s2) (by omega) (by omega) rfl
  have ox := ordEq (a := x1) (b := x1) (by omega) (by omega) rfl
  have ox' := ordEq (a := x2) (b := x2) (by omega) (by omega) rfl
  have o0 := ordZ_eq
  have hop0 := csub_fl (a := x1) (b := x2) (c := m1) (d := m2) (by omega) (by omega) (by omega) (by omega) (by omega) (by omega) (by omega) (by omega)
  rw [hd1, hd2] at hop0
  have hop := fun t w => run_complex_sum (P := Try.prog) w .sub (Or.inr rfl) t .f64 _ _ _ _ _ _ hop0
  clear hop0
  have KA := Lib.hid (FA false (decide_eq_false (by omega)))
  have KD := Lib.hid (FD false (decide_eq_false (by omega)))
  have om := ordZ_gt (a := m1) (by omega) (by omega)
  clear FA FB FC FD
  clear hm1 hm2 hd1 hd2 hs1 hs2 hk1 hk2 hl1 hl2 hn1 hn2 hcase
  go_enter Try.func7, Try.ntmps7
  go_wp2_with fail
  go_quiet ((first | (go_at_call_of 27 (Go.Value.int .i64 p); exact quietL (G1.out _ _)) | (go_at_call_of 27 (Go.Value.int .i64 r); exact quietL (G2.out _ _)) | (go_at_call_of 27 (Go.Value.int .i64 t); exact quietL (G3.out _ _))))
  go_wp2_with fail
  have hb0 : ∀ n (X Y V : Array Go.Value), Below w.heap.size w ((((w.alloc (.cells X 33)).alloc (.cells Y 33)).alloc (.cells V 33)).drewN n) := fun n X Y V => by
    have := (((Below.refl w.heap.size w).alloc (Nat.le_refl _) (.cells X 33)).alloc (by simp) (.cells Y 33)).alloc (by simp; omega) (.cells V 33)
    exact ⟨this.os, this.tape, this.output, this.size, this.block⟩
  refine (e1.out _ _ (by simp)).mono ?_
  rintro e w1 ⟨rfl, rfl⟩
  go_wp2_with fail
  refine (e2.out _ _ (by simp)).mono ?_
  rintro e w1 ⟨rfl, rfl⟩
  go_wp2_with fail
  refine (e3.out _ _ (by simp)).mono ?_
  rintro e w1 ⟨rfl, rfl⟩
  go_wp2_with fail
  refine (e4.out _ _ (by simp)).mono ?_
  rintro e w1 ⟨rfl, rfl⟩
  go_wp2_with fail
  refine (e5.out _ _ (by simp)).mono ?_
  rintro e w1 ⟨rfl, rfl⟩
  go_wp2_with fail
  refine (e6.out _ _ (by simp)).mono ?_
  rintro e w1 ⟨rfl, rfl⟩
  go_wp2_with fail
  refine (e7.out _).mono ?_
  rintro e w1 ⟨rfl, rfl⟩
  go_wp2_with fail
  refine (e8.out _).mono ?_
  rintro e w1 ⟨rfl, rfl⟩
  go_wp2_with fail
  refine (e9.out _).mono ?_
  rintro e w1 ⟨rfl, rfl⟩
  go_wp2_with fail
  refine (KA.out _).mono ?_
  rintro e w1 ⟨rfl, rfl⟩
  go_wp2_with fail
  refine (e10.out _ _ (by simp)).mono ?_
  rintro e w1 ⟨rfl, rfl⟩
  go_wp2_with fail
  refine (e11.out _ _ (by simp)).mono ?_
  rintro e w1 ⟨rfl, rfl⟩
  go_wp2_with fail
  refine (KD.out _).mono ?_
  rintro e w1 ⟨rfl, rfl⟩
  go_wp2_with fail
  refine (KA.out _).mono ?_
  rintro e w1 ⟨rfl, rfl⟩
  go_wp2_with fail
  refine (kAwake28 _).mono ?_
  rintro e w9 ⟨rfl, hb9⟩
  go_wp2_with fail
  go_ret
  refine ⟨rfl, Below.trans ?_ (hb9.mono (by simp; omega))⟩
  repeat (first | exact hb0 _ _ _ _ | (refine Below.alloc ?_ (by simp; omega) _))
set_option maxRecDepth 100000 in
set_option maxHeartbeats 4000000 in
theorem kFitsCase5 (p q r s t u : Int) (w : World) (hcase : (nearM s < nearM q)) :
    Calls Try.prog 7 #[.agg #[.int .i64 p, .int .i64 q], .agg #[.int .i64 r, .int .i64 s], .agg #[.int .i64 t, .int .i64 u]] w fun e w' => e = .returned (.bool true) ∧ Below w.heap.size w w' := by
  have hbx1 := nearM_bd p
  have hbx2 := nearM_bd q
  have hby1 := nearM_bd r
  have hby2 := nearM_bd s
  have hbz1 := nearM_bd t
  have hbz2 := nearM_bd u
  have G1 := Lib.hid (fun w1 n => kOf p q (World.drewN w1 n))
  have G2 := Lib.hid (fun w1 n => kOf r s (World.drewN w1 n))
  have G3 := Lib.hid (fun w1 n => kOf t u (World.drewN w1 n))
  generalize nearM p = x1 at *
  generalize nearM q = x2 at *
  generalize nearM r = y1 at *
  generalize nearM s = y2 at *
  generalize nearM t = z1 at *
  generalize nearM u = z2 at *
  obtain ⟨hbx1, hbx1'⟩ := hbx1
  obtain ⟨hbx2, hbx2'⟩ := hbx2
  obtain ⟨hby1, hby1'⟩ := hby1
  obtain ⟨hby2, hby2'⟩ := hby2
  obtain ⟨hbz1, hbz1'⟩ := hbz1
  obtain ⟨hbz2, hbz2'⟩ := hbz2
  obtain ⟨m1, hm1⟩ : ∃ m, max (x1 - y1) 0 = m := ⟨_, rfl⟩
  obtain ⟨m2, hm2⟩ : ∃ m, max (x2 - y2) 0 = m := ⟨_, rfl⟩
  obtain ⟨d1, hd1⟩ : ∃ d, x1 - m1 = d := ⟨_, rfl⟩
  obtain ⟨d2, hd2⟩ : ∃ d, x2 - m2 = d := ⟨_, rfl⟩
  obtain ⟨s1, hs1⟩ : ∃ m, x1 + y1 + z1 = m := ⟨_, rfl⟩
  obtain ⟨s2, hs2⟩ : ∃ m, x2 + y2 + z2 = m := ⟨_, rfl⟩
  obtain ⟨k1, hk1⟩ : ∃ m, x1 + y1 = m := ⟨_, rfl⟩
  obtain ⟨k2, hk2⟩ : ∃ m, x2 + y2 = m := ⟨_, rfl⟩
  obtain ⟨l1, hl1⟩ : ∃ m, y1 + z1 = m := ⟨_, rfl⟩
  obtain ⟨l2, hl2⟩ : ∃ m, y2 + z2 = m := ⟨_, rfl⟩
  obtain ⟨n1, hn1⟩ : ∃ m, x1 + x1 = m := ⟨_, rfl⟩
  obtain ⟨n2, hn2⟩ : ∃ m, x2 + x2 = m := ⟨_, rfl⟩
  have e1 := Lib.hid (fun w1 B (hB : (World.heap w1).size = B) => kSum3B x1 x2 y1 y2 z1 z2 36 (by omega) (by omega) (by omega) (by omega) (by omega) (by omega) s1 s2 (by omega) (by omega) w1 B hB)
  have e2 := Lib.hid (fun w1 B (hB : (World.heap w1).size = B) => kSum3B z1 z2 x1 x2 y1 y2 36 (by omega) (by omega) (by omega) (by omega) (by omega) (by omega) s1 s2 (by omega) (by omega) w1 B hB)
  have e3 := Lib.hid (fun w1 B (hB : (World.heap w1).size = B) => kSum2B x1 x2 y1 y2 36 (by omega) (by omega) (by omega) (by omega) k1 k2 (by omega) (by omega) w1 B hB)
  have e4 := Lib.hid (fun w1 B (hB : (World.heap w1).size = B) => kSum2B k1 k2 z1 z2 36 (by omega) (by omega) (by omega) (by omega) s1 s2 (by omega) (by omega) w1 B hB)
  have e5 := Lib.hid (fun w1 B (hB : (World.heap w1).size = B) => kSum2B y1 y2 z1 z2 36 (by omega) (by omega) (by omega) (by omega) l1 l2 (by omega) (by omega) w1 B hB)
  have e6 := Lib.hid (fun w1 B (hB : (World.heap w1).size = B) => kSum2B x1 x2 l1 l2 36 (by omega) (by omega) (by omega) (by omega) s1 s2 (by omega) (by omega) w1 B hB)
  have e7 := Lib.hid (fun w1 => kSumNil w1)
  have e8 := Lib.hid (fun w1 => kOver x1 x2 y1 y2 w1 (by omega) (by omega) (by omega) (by omega) (by omega) (by omega) (by omega) (by omega) m1 m2 hm1 hm2)
  have e9 := Lib.hid (fun w1 => kFitsT d1 d2 y1 y2 w1 (by omega) (by omega) (by omega) (by omega) (by omega) (by omega) (by omega) (by omega) true (decide_eq_true (by omega)))
  have e10 := Lib.hid (fun w1 B (hB : (World.heap w1).size = B) => kSum2B d1 d2 m1 m2 36 (by omega) (by omega) (by omega) (by omega) x1 x2 (by omega) (by omega) w1 B hB)
  have e11 := Lib.hid (fun w1 B (hB : (World.heap w1).size = B) => kSum2B x1 x2 x1 x2 36 (by omega) (by omega) (by omega) (by omega) n1 n2 (by omega) (by omega) w1 B hB)
  have FA := fun r h w1 => kFitsT x1 x2 y1 y2 w1 (by omega) (by omega) (by omega) (by omega) (by omega) (by omega) (by omega) (by omega) r h
  have FD := fun r h w1 => kFitsT n1 n2 y1 y2 w1 (by omega) (by omega) (by omega) (by omega) (by omega) (by omega) (by omega) (by omega) r h
  have FB := fun r h w1 => kFitsT y1 y2 z1 z2 w1 (by omega) (by omega) (by omega) (by omega) (by omega) (by omega) (by omega) (by omega) r h
  have FC := fun r h w1 => kFitsT x1 x2 z1 z2 w1 (by omega) (by omega) (by omega) (by omega) (by omega) (by omega) (by omega) (by omega) r h
  have os := ordEq (a := s1) (b := s1) (by omega) (by omega) rfl
  have os' := ordEq (a := s2) (b := s2) (by omega) (by omega) rfl
  have ox := ordEq (a := x1) (b := x1) (by omega) (by omega) rfl
  have ox' := ordEq (a := x2) (b := x2) (by omega) (by omega) rfl
  have o0 := ordZ_eq
  have hop0 := csub_fl (a := x1) (b := x2) (c := m1) (d := m2) (by omega) (by omega) (by omega) (by omega) (by omega) (by omega) (by omega) (by omega)
  rw [hd1, hd2] at hop0
  have hop := fun t w => run_complex_sum (P := Try.prog) w .sub (Or.inr rfl) t .f64 _ _ _ _ _ _ hop0
  clear hop0
  have KA := Lib.hid (FA false (decide_eq_false (by omega)))
  have KD := Lib.hid (FD false (decide_eq_false (by omega)))
  have om := ordZ_gt (a := m2) (by omega) (by omega)
  clear FA FB FC FD
  clear hm1 hm2 hd1 hd2 hs1 hs2 hk1 hk2 hl1 hl2 hn1 hn2 hcase
  go_enter Try.func7, Try.ntmps7
  go_wp2_with fail
  go_quiet ((first | (go_at_call_of 27 (Go.Value.int .i64 p); exact quietL (G1.out _ _)) | (go_at_call_of 27 (Go.Value.int .i64 r); exact quietL (G2.out _ _)) | (go_at_call_of 27 (Go.Value.int .i64 t); exact quietL (G3.out _ _))))
  go_wp2_with fail
  have hb0 : ∀ n (X Y V : Array Go.Value), Below w.heap.size w ((((w.alloc (.cells X 33)).alloc (.cells Y 33)).alloc (.cells V 33)).drewN n) := fun n X Y V => by
    have := (((Below.refl w.heap.size w).alloc (Nat.le_refl _) (.cells X 33)).alloc (by simp) (.cells Y 33)).alloc (by simp; omega) (.cells V 33)
    exact ⟨this.os, this.tape, this.output, this.size, this.block⟩
  refine (e1.out _ _ (by simp)).mono ?_
  rintro e w1 ⟨rfl, rfl⟩
  go_wp2_with fail
  refine (e2.out _ _ (by simp)).mono ?_
  rintro e w1 ⟨rfl, rfl⟩
  go_wp2_with fail
  refine (e3.out _ _ (by simp)).mono ?_
  rintro e w1 ⟨rfl, rfl⟩
  go_wp2_with fail
  refine (e4.out _ _ (by simp)).mono ?_
  rintro e w1 ⟨rfl, rfl⟩
  go_wp2_with fail
  refine (e5.out _ _ (by simp)).mono ?_
  rintro e w1 ⟨rfl, rfl⟩
  go_wp2_with fail
  refine (e6.out _ _ (by simp)).mono ?_
  rintro e w1 ⟨rfl, rfl⟩
  go_wp2_with fail
  refine (e7.out _).mono ?_
  rintro e w1 ⟨rfl, rfl⟩
  go_wp2_with fail
  refine (e8.out _).mono ?_
  rintro e w1 ⟨rfl, rfl⟩
  go_wp2_with fail
  refine (e9.out _).mono ?_
  rintro e w1 ⟨rfl, rfl⟩
  go_wp2_with fail
  refine (KA.out _).mono ?_
  rintro e w1 ⟨rfl, rfl⟩
  go_wp2_with fail
  refine (e10.out _ _ (by simp)).mono ?_
  rintro e w1 ⟨rfl, rfl⟩
  go_wp2_with fail
  refine (e11.out _ _ (by simp)).mono ?_
  rintro e w1 ⟨rfl, rfl⟩
  go_wp2_with fail
  refine (KD.out _).mono ?_
  rintro e w1 ⟨rfl, rfl⟩
  go_wp2_with fail
  refine (KA.out _).mono ?_
  rintro e w1 ⟨rfl, rfl⟩
  go_wp2_with fail
  refine (kAwake28 _).mono ?_
  rintro e w9 ⟨rfl, hb9⟩
  go_wp2_with fail
  go_ret
  refine ⟨rfl, Below.trans ?_ (hb9.mono (by simp; omega))⟩
  repeat (first | exact hb0 _ _ _ _ | (refine Below.alloc ?_ (by simp; omega) _))
theorem kBurdenFits (p q r s t u : Int) (w : World) :
    Calls Try.prog 7 #[.agg #[.int .i64 p, .int .i64 q], .agg #[.int .i64 r, .int .i64 s], .agg #[.int .i64 t, .int .i64 u]] w fun e w' => e = .returned (.bool true) ∧ Below w.heap.size w w' := by
  by_cases h1 : nearM p ≤ nearM r ∧ nearM q ≤ nearM s
  · by_cases h2 : nearM p + nearM p ≤ nearM r ∧ nearM q + nearM q ≤ nearM s
    · by_cases h3 : nearM r ≤ nearM t ∧ nearM s ≤ nearM u
      · exact kFitsCase0 p q r s t u w ⟨h1, h2, h3⟩
      · exact kFitsCase1 p q r s t u w ⟨h1, h2, h3⟩
    · by_cases h3 : nearM r ≤ nearM t ∧ nearM s ≤ nearM u
      · exact kFitsCase2 p q r s t u w ⟨h1, h2, h3⟩
      · exact kFitsCase3 p q r s t u w ⟨h1, h2, h3⟩
  · by_cases h2 : nearM r < nearM p
    · exact kFitsCase4 p q r s t u w h2
    · exact kFitsCase5 p q r s t u w (by omega)
end Go.Proofs.Ytglihjdbbpohlaa.W
