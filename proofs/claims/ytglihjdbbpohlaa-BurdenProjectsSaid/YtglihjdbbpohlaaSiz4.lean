/- Contracts of the writers of amounts. -/
import Derived.Test.YtglihjdbbpohlaaDig1
import Derived.Test.YtglihjdbbpohlaaPlS
import Derived.Test.YtglihjdbbpohlaaTxt2
import Derived.Deep.RegionWith
namespace Go.Proofs.Ytglihjdbbpohlaa.W
open Go.RowKit Go.Proofs.Ytglihjdbbpohlaa.Pl

theorem i64_and1023 (n : Int) : bits .and .i64 n 1023 = n % 1024 := by
  have h127 : (BitVec.ofInt 64 1023).toNat = 2 ^ 10 - 1 := by decide
  have key : (BitVec.ofInt 64 n &&& BitVec.ofInt 64 1023).toNat = (n % ((2 ^ 64 : Nat) : Int)).toNat % 2 ^ 10 := by
    rw [BitVec.toNat_and, BitVec.toNat_ofInt, h127, Nat.and_two_pow_sub_one_eq_mod]
  show IntKind.i64.wrap ((BitVec.ofInt 64 n &&& BitVec.ofInt 64 1023).toNat : Nat) = n % 1024
  rw [key, IntKind.wrap_i64]
  omega
theorem and0 {n : Int} (h : n % 1024 = 0) : (bits .and .i64 n 1023 == 0) = true := by rw [i64_and1023]; exact beqT h
theorem and1 {n : Int} (h : n % 1024 ≠ 0) : (bits .and .i64 n 1023 == 0) = false := by rw [i64_and1023]; exact beqF h
theorem bneF {a b : Int} (h : a = b) : (a != b) = false := by rw [h]; simp
theorem bneT {a b : Int} (h : a ≠ b) : (a != b) = true := bne_iff_ne.2 h

set_option maxRecDepth 100000 in
set_option maxHeartbeats 1000000 in
theorem klevel (n : Nat) (w : World) (hn : n ≤ 1125899906842624) :
    Calls Try.prog 64 #[.int .i64 n] w fun e w' => e = .returned (.int .i64 (lvl n)) ∧ w = w' := by
  by_cases h0 : n = 0
  · subst h0
    go_enter Try.func64, Try.ntmps64
    go_wp2
    refine wp_loop_rounds 4 ?_
    rw [rounds_succ]
    go_wp2
    go_ret
    exact ⟨rfl, rfl⟩
  have z0 : ((n : Int) != 0) = true := bneT (by omega)
  by_cases h1 : n % 1024 = 0
  · have a0 := and0 (n := (n : Int)) (by omega)
    have z1 : ((n : Int) / 1024 != 0) = true := bneT (by omega)
    by_cases h2 : n % 1048576 = 0
    · have a1 := and0 (n := (n : Int) / 1024) (by omega)
      have z2 : ((n : Int) / 1024 / 1024 != 0) = true := bneT (by omega)
      by_cases h3 : n % 1073741824 = 0
      · have a2 := and0 (n := (n : Int) / 1024 / 1024) (by omega)
        have HL : Hid (lvl n = 3) := Lib.hid (by unfold lvl; rw [if_neg (by omega), if_neg (by omega), if_neg (by omega)])
        clear h0 h1 h2 h3
        go_enter Try.func64, Try.ntmps64
        go_wp2
        refine wp_loop_rounds 4 ?_
        rw [rounds_succ]
        go_wp2
        rw [rounds_succ]
        go_wp2
        rw [rounds_succ]
        go_wp2
        rw [rounds_succ]
        go_wp2
        go_ret
        exact ⟨ret_int (by rw [HL.out]; rfl), rfl⟩
      · have a2 := and1 (n := (n : Int) / 1024 / 1024) (by omega)
        have HL : Hid (lvl n = 2) := Lib.hid (by unfold lvl; rw [if_neg (by omega), if_neg (by omega), if_pos (by omega)])
        clear h0 h1 h2 h3
        go_enter Try.func64, Try.ntmps64
        go_wp2
        refine wp_loop_rounds 4 ?_
        rw [rounds_succ]
        go_wp2
        rw [rounds_succ]
        go_wp2
        rw [rounds_succ]
        go_wp2
        go_ret
        exact ⟨ret_int (by rw [HL.out]; rfl), rfl⟩
    · have a1 := and1 (n := (n : Int) / 1024) (by omega)
      have HL : Hid (lvl n = 1) := Lib.hid (by unfold lvl; rw [if_neg (by omega), if_pos (by omega)])
      clear h0 h1 h2
      go_enter Try.func64, Try.ntmps64
      go_wp2
      refine wp_loop_rounds 4 ?_
      rw [rounds_succ]
      go_wp2
      rw [rounds_succ]
      go_wp2
      go_ret
      exact ⟨ret_int (by rw [HL.out]; rfl), rfl⟩
  · have a0 := and1 (n := (n : Int)) (by omega)
    have HL : Hid (lvl n = 0) := Lib.hid (by unfold lvl; rw [if_pos (by omega)])
    clear h0 h1
    go_enter Try.func64, Try.ntmps64
    go_wp2
    refine wp_loop_rounds 4 ?_
    rw [rounds_succ]
    go_wp2
    go_ret
    exact ⟨ret_int (by rw [HL.out]; rfl), rfl⟩

theorem klevelC (n : Nat) (w : World) (hn : n ≤ 1125899906842624) (c : Int) (hc : (lvl n : Int) = c) :
    Calls Try.prog 64 #[.int .i64 n] w fun e w' => e = .returned (.int .i64 c) ∧ w = w' := hc ▸ klevel n w hn

theorem kSizeUnit (n : Int) (w : World) :
    Calls Try.prog 44 #[.int .i64 n] w fun e w' => e = .returned (.int .i64 (szU n)) ∧ w = w' := by
  by_cases h : n < 0 ∨ 1125899906842624 < n
  · have HR := Lib.hid (szU_out h)
    rcases h with h | h
    all_goals
      go_enter Try.func44, Try.ntmps44
      go_wp2
      go_ret
      exact ⟨ret_int HR.out.symm, rfl⟩
  · obtain ⟨m, rfl⟩ : ∃ m : Nat, n = (m : Int) := ⟨n.toNat, by omega⟩
    have HR := Lib.hid (szU_in (n := m) (by omega))
    rcases lvl_cases m with ⟨hl, _⟩ | ⟨hl, _⟩ | ⟨hl, _⟩ | ⟨hl, _⟩
    all_goals
      have HL := Lib.hid hl
      clear hl
      go_enter Try.func44, Try.ntmps44
      go_wp2_with (go_at_call 64; ((with_reducible refine (klevelC _ _ (by omega) _ (by rw [HL.out])).mono ?_); rintro e w' ⟨rfl, rfl⟩))
      go_ret
      exact ⟨ret_int (by rw [HR.out, HL.out]; rfl), rfl⟩

theorem kRefSizeUnit (n : Int) (w : World) :
    Calls Try.prog 45 #[.int .i64 n] w fun e w' => e = .returned (.int .i64 (szU n)) ∧ w = w' := by
  by_cases h : n < 0 ∨ 1125899906842624 < n
  · have HR := Lib.hid (szU_out h)
    rcases h with h | h
    all_goals
      go_enter Try.func45, Try.ntmps45
      go_wp2
      go_ret
      exact ⟨ret_int HR.out.symm, rfl⟩
  · obtain ⟨m, rfl⟩ : ∃ m : Nat, n = (m : Int) := ⟨n.toNat, by omega⟩
    have HR := Lib.hid (szU_in (n := m) (by omega))
    have hm : (m : Int) ≤ 1125899906842624 := by omega
    rcases lvl_cases m with ⟨hl, hc | hc⟩ | ⟨hl, h0, h1, h2⟩ | ⟨hl, h0, h1, h2, h3⟩ | ⟨hl, h0, h1, h2, h3⟩
    · have HL := Lib.hid hl
      subst hc
      clear hl
      go_enter Try.func45, Try.ntmps45
      go_wp2
      go_ret
      exact ⟨ret_int (by rw [HR.out]; rfl), rfl⟩
    · have HL := Lib.hid hl
      have z0 : ((m : Int) == 0) = false := beqF (by omega)
      have z1 : ((m : Int) % 1024 != 0) = true := bneT (by omega)
      clear hl
      go_enter Try.func45, Try.ntmps45
      go_wp2
      go_ret
      exact ⟨ret_int (by rw [HR.out, HL.out]; rfl), rfl⟩
    · have HL := Lib.hid hl
      have z0 : ((m : Int) == 0) = false := beqF (by omega)
      have z1 : ((m : Int) % 1024 != 0) = false := bneF (by omega)
      have z2 : ((m : Int) % 1048576 != 0) = true := bneT (by omega)
      clear hl h0 h1 h2
      go_enter Try.func45, Try.ntmps45
      go_wp2
      go_ret
      exact ⟨ret_int (by rw [HR.out, HL.out]; rfl), rfl⟩
    · have HL := Lib.hid hl
      have z0 : ((m : Int) == 0) = false := beqF (by omega)
      have z1 : ((m : Int) % 1024 != 0) = false := bneF (by omega)
      have z2 : ((m : Int) % 1048576 != 0) = false := bneF (by omega)
      have z3 : ((m : Int) % 1073741824 != 0) = true := bneT (by omega)
      clear hl h0 h1 h2 h3
      go_enter Try.func45, Try.ntmps45
      go_wp2
      go_ret
      exact ⟨ret_int (by rw [HR.out, HL.out]; rfl), rfl⟩
    · have HL := Lib.hid hl
      have z0 : ((m : Int) == 0) = false := beqF (by omega)
      have z1 : ((m : Int) % 1024 != 0) = false := bneF (by omega)
      have z2 : ((m : Int) % 1048576 != 0) = false := bneF (by omega)
      have z3 : ((m : Int) % 1073741824 != 0) = false := bneF (by omega)
      clear hl h0 h1 h2 h3
      go_enter Try.func45, Try.ntmps45
      go_wp2
      go_ret
      exact ⟨ret_int (by rw [HR.out, HL.out]; rfl), rfl⟩

theorem unitAt0 (w : World) : (Instr.index 77 (.agg #[.string ⟨#[]⟩, .string ⟨#[107]⟩, .string ⟨#[109]⟩, .string ⟨#[103]⟩]) (.int .i64 0)).run Try.prog w = .ok (.string ⟨#[]⟩) w := by kernel_rfl
theorem unitAt1 (w : World) : (Instr.index 77 (.agg #[.string ⟨#[]⟩, .string ⟨#[107]⟩, .string ⟨#[109]⟩, .string ⟨#[103]⟩]) (.int .i64 1)).run Try.prog w = .ok (.string ⟨#[107]⟩) w := by kernel_rfl
theorem unitAt2 (w : World) : (Instr.index 77 (.agg #[.string ⟨#[]⟩, .string ⟨#[107]⟩, .string ⟨#[109]⟩, .string ⟨#[103]⟩]) (.int .i64 2)).run Try.prog w = .ok (.string ⟨#[109]⟩) w := by kernel_rfl
theorem unitAt3 (w : World) : (Instr.index 77 (.agg #[.string ⟨#[]⟩, .string ⟨#[107]⟩, .string ⟨#[109]⟩, .string ⟨#[103]⟩]) (.int .i64 3)).run Try.prog w = .ok (.string ⟨#[103]⟩) w := by kernel_rfl

theorem kRefSizeUnitC (n : Int) (w : World) (c : Int) (hc : szU n = c) :
    Calls Try.prog 45 #[.int .i64 n] w fun e w' => e = .returned (.int .i64 c) ∧ w = w' := hc ▸ kRefSizeUnit n w

set_option maxRecDepth 100000 in
set_option maxHeartbeats 1000000 in
theorem kSizeText (n : Int) (w : World) :
    Calls Try.prog 18 #[.int .i64 n] w fun e w' => e = .returned (.string (bs (szT n))) ∧ Below w.heap.size w w' := by
  by_cases h : n < 0 ∨ 1125899906842624 < n
  · have HR := Lib.hid (szT_out h)
    rcases h with h | h
    all_goals
      go_enter Try.func18, Try.ntmps18
      go_wp2
      go_ret
      exact ⟨by rw [HR.out]; rfl, Below.refl _ _⟩
  · obtain ⟨m, rfl⟩ : ∃ m : Nat, n = (m : Int) := ⟨n.toNat, by omega⟩
    have HR := Lib.hid (szT_in (n := m) (by omega))
    rcases lvl_cases m with ⟨hl, _⟩ | ⟨hl, _⟩ | ⟨hl, _⟩ | ⟨hl, _⟩
    · have HL := Lib.hid hl
      clear hl
      have hd : (0 : Int) ≤ (m : Int) / 1 ∧ (m : Int) / 1 ≤ 1125899906842624 := by omega
      have hlen : (bs (txt (m : Int))).size ≤ 20 := by rw [bs_size]; exact txt_len (by omega) (by omega)
      go_enter Try.func18, Try.ntmps18
      go_wp2_with (go_at_call 64; ((with_reducible refine (klevelC _ _ (by omega) 0 (congrArg (fun x : Nat => (x : Int)) HL.out)).mono ?_); rintro e w' ⟨rfl, rfl⟩))
      have HE : Hid (bs (szT (m : Int)) = bs (txt (m : Int)) ++ ⟨#[]⟩) := Lib.hid (by rw [HR.out, HL.out, ← bs_append]; rw [show (m : Int) / longU 0 = m from Int.ediv_one _]; rfl)
      have hix := unitAt0
      have hw : IntKind.i64.wrap 0 = 0 := by rw [IntKind.wrap_i64]; rfl
      go_region_with (go_at_call 39; refine (kText _ _ (by omega) (by omega)).mono ?_; rintro e w' ⟨rfl, hb⟩)
      all_goals
        go_wp2
        go_ret
        exact ⟨by rw [HE.out]; rfl, (Below.refl _ _).drew.trans hb⟩
    · have HL := Lib.hid hl
      clear hl
      have hd : (0 : Int) ≤ (m : Int) / 1024 ∧ (m : Int) / 1024 ≤ 1125899906842624 := by omega
      have hlen : (bs (txt ((m : Int) / 1024))).size ≤ 20 := by rw [bs_size]; exact txt_len (by omega) (by omega)
      go_enter Try.func18, Try.ntmps18
      go_wp2_with (go_at_call 64; ((with_reducible refine (klevelC _ _ (by omega) 1 (congrArg (fun x : Nat => (x : Int)) HL.out)).mono ?_); rintro e w' ⟨rfl, rfl⟩))
      have HE : Hid (bs (szT (m : Int)) = bs (txt ((m : Int) / 1024)) ++ ⟨#[107]⟩) := Lib.hid (by rw [HR.out, HL.out, ← bs_append]; rfl)
      have hix := unitAt1
      have hw : IntKind.i64.wrap 10 = 10 := by rw [IntKind.wrap_i64]; rfl
      go_region_with (go_at_call 39; refine (kText _ _ (by omega) (by omega)).mono ?_; rintro e w' ⟨rfl, hb⟩)
      all_goals
        go_wp2
        go_ret
        exact ⟨by rw [HE.out]; rfl, (Below.refl _ _).drew.trans hb⟩
    · have HL := Lib.hid hl
      clear hl
      have hd : (0 : Int) ≤ (m : Int) / 1048576 ∧ (m : Int) / 1048576 ≤ 1125899906842624 := by omega
      have hlen : (bs (txt ((m : Int) / 1048576))).size ≤ 20 := by rw [bs_size]; exact txt_len (by omega) (by omega)
      go_enter Try.func18, Try.ntmps18
      go_wp2_with (go_at_call 64; ((with_reducible refine (klevelC _ _ (by omega) 2 (congrArg (fun x : Nat => (x : Int)) HL.out)).mono ?_); rintro e w' ⟨rfl, rfl⟩))
      have HE : Hid (bs (szT (m : Int)) = bs (txt ((m : Int) / 1048576)) ++ ⟨#[109]⟩) := Lib.hid (by rw [HR.out, HL.out, ← bs_append]; rfl)
      have hix := unitAt2
      have hw : IntKind.i64.wrap 20 = 20 := by rw [IntKind.wrap_i64]; rfl
      go_region_with (go_at_call 39; refine (kText _ _ (by omega) (by omega)).mono ?_; rintro e w' ⟨rfl, hb⟩)
      all_goals
        go_wp2
        go_ret
        exact ⟨by rw [HE.out]; rfl, (Below.refl _ _).drew.trans hb⟩
    · have HL := Lib.hid hl
      clear hl
      have hd : (0 : Int) ≤ (m : Int) / 1073741824 ∧ (m : Int) / 1073741824 ≤ 1125899906842624 := by omega
      have hlen : (bs (txt ((m : Int) / 1073741824))).size ≤ 20 := by rw [bs_size]; exact txt_len (by omega) (by omega)
      go_enter Try.func18, Try.ntmps18
      go_wp2_with (go_at_call 64; ((with_reducible refine (klevelC _ _ (by omega) 3 (congrArg (fun x : Nat => (x : Int)) HL.out)).mono ?_); rintro e w' ⟨rfl, rfl⟩))
      have HE : Hid (bs (szT (m : Int)) = bs (txt ((m : Int) / 1073741824)) ++ ⟨#[103]⟩) := Lib.hid (by rw [HR.out, HL.out, ← bs_append]; rfl)
      have hix := unitAt3
      have hw : IntKind.i64.wrap 30 = 30 := by rw [IntKind.wrap_i64]; rfl
      go_region_with (go_at_call 39; refine (kText _ _ (by omega) (by omega)).mono ?_; rintro e w' ⟨rfl, hb⟩)
      all_goals
        go_wp2
        go_ret
        exact ⟨by rw [HE.out]; rfl, (Below.refl _ _).drew.trans hb⟩

set_option maxRecDepth 100000 in
set_option maxHeartbeats 1000000 in
theorem kRefSizeText (n : Int) (w : World) (hn1 : -9223372036854775808 ≤ n) (hn2 : n ≤ 9223372036854775807) :
    Calls Try.prog 43 #[.int .i64 n] w fun e w' => e = .returned (.string (bs (szT n))) ∧ Below w.heap.size w w' := by
  by_cases h : n < 0 ∨ 1125899906842624 < n
  · have HR := Lib.hid (szT_out h)
    have HU := Lib.hid (szU_out h)
    clear h
    go_enter Try.func43, Try.ntmps43
    go_wp2_with (go_at_call 45; ((with_reducible refine (kRefSizeUnitC _ _ 0 HU.out).mono ?_); rintro e w' ⟨rfl, rfl⟩))
    go_ret
    exact ⟨by rw [HR.out]; rfl, Below.refl _ _⟩
  · obtain ⟨m, rfl⟩ : ∃ m : Nat, n = (m : Int) := ⟨n.toNat, by omega⟩
    have HR := Lib.hid (szT_in (n := m) (by omega))
    have HU := Lib.hid (szU_in (n := m) (by omega))
    rcases lvl_cases m with ⟨hl, _⟩ | ⟨hl, _⟩ | ⟨hl, _⟩ | ⟨hl, _⟩
    · have HL := Lib.hid hl
      clear hl
      have hd : (0 : Int) ≤ (m : Int) / 1 ∧ (m : Int) / 1 ≤ 1125899906842624 := by omega
      have hlen : (bs (txt (m : Int))).size ≤ 20 := by rw [bs_size]; exact txt_len (by omega) (by omega)
      have HE : Hid (bs (szT (m : Int)) = bs (txt (m : Int))) := Lib.hid (by rw [HR.out, HL.out]; rw [show (m : Int) / longU 0 = m from Int.ediv_one _, show sfx 0 = [] from rfl, List.append_nil])
      have HV : Hid (szU (m : Int) = 1) := Lib.hid (by rw [HU.out, HL.out]; rfl)
      go_enter Try.func43, Try.ntmps43
      go_wp2_with (first | (go_at_call 45; ((with_reducible refine (kRefSizeUnitC _ _ 1 HV.out).mono ?_); rintro e w' ⟨rfl, rfl⟩)) | (go_at_call 40; ((with_reducible refine (kRefText _ _ (by omega) (by omega)).mono ?_); rintro e w' ⟨rfl, hb⟩)))
      go_ret
      exact ⟨by rw [HE.out]; rfl, by assumption⟩
    · have HL := Lib.hid hl
      clear hl
      have hd : (0 : Int) ≤ (m : Int) / 1024 ∧ (m : Int) / 1024 ≤ 1125899906842624 := by omega
      have hlen : (bs (txt ((m : Int) / 1024))).size ≤ 20 := by rw [bs_size]; exact txt_len (by omega) (by omega)
      have HE : Hid (bs (szT (m : Int)) = bs (txt ((m : Int) / 1024)) ++ ⟨#[107]⟩) := Lib.hid (by rw [HR.out, HL.out, ← bs_append]; rfl)
      have HV : Hid (szU (m : Int) = 1024) := Lib.hid (by rw [HU.out, HL.out]; rfl)
      go_enter Try.func43, Try.ntmps43
      go_wp2_with (first | (go_at_call 45; ((with_reducible refine (kRefSizeUnitC _ _ 1024 HV.out).mono ?_); rintro e w' ⟨rfl, rfl⟩)) | (go_at_call 40; ((with_reducible refine (kRefText _ _ (by omega) (by omega)).mono ?_); rintro e w' ⟨rfl, hb⟩)))
      go_ret
      exact ⟨by rw [HE.out]; rfl, by assumption⟩
    · have HL := Lib.hid hl
      clear hl
      have hd : (0 : Int) ≤ (m : Int) / 1048576 ∧ (m : Int) / 1048576 ≤ 1125899906842624 := by omega
      have hlen : (bs (txt ((m : Int) / 1048576))).size ≤ 20 := by rw [bs_size]; exact txt_len (by omega) (by omega)
      have HE : Hid (bs (szT (m : Int)) = bs (txt ((m : Int) / 1048576)) ++ ⟨#[109]⟩) := Lib.hid (by rw [HR.out, HL.out, ← bs_append]; rfl)
      have HV : Hid (szU (m : Int) = 1048576) := Lib.hid (by rw [HU.out, HL.out]; rfl)
      go_enter Try.func43, Try.ntmps43
      go_wp2_with (first | (go_at_call 45; ((with_reducible refine (kRefSizeUnitC _ _ 1048576 HV.out).mono ?_); rintro e w' ⟨rfl, rfl⟩)) | (go_at_call 40; ((with_reducible refine (kRefText _ _ (by omega) (by omega)).mono ?_); rintro e w' ⟨rfl, hb⟩)))
      go_ret
      exact ⟨by rw [HE.out]; rfl, by assumption⟩
    · have HL := Lib.hid hl
      clear hl
      have hd : (0 : Int) ≤ (m : Int) / 1073741824 ∧ (m : Int) / 1073741824 ≤ 1125899906842624 := by omega
      have hlen : (bs (txt ((m : Int) / 1073741824))).size ≤ 20 := by rw [bs_size]; exact txt_len (by omega) (by omega)
      have HE : Hid (bs (szT (m : Int)) = bs (txt ((m : Int) / 1073741824)) ++ ⟨#[103]⟩) := Lib.hid (by rw [HR.out, HL.out, ← bs_append]; rfl)
      have HV : Hid (szU (m : Int) = 1073741824) := Lib.hid (by rw [HU.out, HL.out]; rfl)
      go_enter Try.func43, Try.ntmps43
      go_wp2_with (first | (go_at_call 45; ((with_reducible refine (kRefSizeUnitC _ _ 1073741824 HV.out).mono ?_); rintro e w' ⟨rfl, rfl⟩)) | (go_at_call 40; ((with_reducible refine (kRefText _ _ (by omega) (by omega)).mono ?_); rintro e w' ⟨rfl, hb⟩)))
      go_ret
      exact ⟨by rw [HE.out]; rfl, by assumption⟩
end Go.Proofs.Ytglihjdbbpohlaa.W
