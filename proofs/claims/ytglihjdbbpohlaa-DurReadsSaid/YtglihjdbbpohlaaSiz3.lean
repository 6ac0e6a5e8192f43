/- Contract of the program's reader of amounts. -/
import Derived.Test.YtglihjdbbpohlaaSiz2
namespace Go.Proofs.Ytglihjdbbpohlaa.W
open Go.RowKit Go.Proofs.Ytglihjdbbpohlaa.Pl

/-- no digit from a place on -/
def NoDig (s : ByteArray) (k : Nat) : Prop := ∀ j (h : j < s.size), k ≤ j → isDig s[j] = false

theorem quiet_left {P : Program} {f : FuncId} {args : Array Go.Value} {w : World} {n : Nat} {v : Go.Value}
    (h : Calls P f args (w.drewN n) fun e w' => e = .returned v ∧ w.drewN n = w') : Calls P f args (w.drewN n) fun e w'' => e = .returned v ∧ ∃ m, w'' = w.drewN m :=
  h.mono fun _ _ ⟨he, hm⟩ => ⟨he, n, hm.symm⟩

set_option maxRecDepth 100000 in
set_option maxHeartbeats 4000000 in
theorem kSizeParse (s : ByteArray) (w : World) (hs : s.size ≤ 140737488355328) :
    Calls Try.prog 16 #[.string s] w fun e w' => e = .returned (.tuple #[.int .i64 (szV s.data.toList), .int .i64 (szE s.data.toList)]) ∧ ∃ n, w' = w.drewN n := by
  go_enter Try.func16, Try.ntmps16
  go_wp2_with fail
  go_loop [4] (fun i => ∃ k : Nat, k ≤ s.size ∧ NoDig s k ∧ i = .int .i64 k) (fun i => (intOf i).toNat)
  case atStart => exact ⟨s.size, by omega, fun j h1 h2 => by omega, rfl⟩
  case round =>
    obtain ⟨k, hk, hd, rfl⟩ := hrel
    by_cases hc : ∃ j, ∃ h : j < s.size, k = j + 1 ∧ isDig s[j] = false
    · obtain ⟨j, hlt, rfl, hc⟩ := hc
      have HA : NoDig s j := fun i h1 h2 => by
        by_cases e : i = j
        · subst e; exact hc
        · exact hd i h1 (by omega)
      have hc' := (isDig_false _).1 hc
      have hub := UInt8.toNat_lt s[j]
      have Hd := Lib.hid HA
      clear hc hd HA
      rcases hc' with hc' | hc'
      all_goals
        go_wp2_with fail
        go_round
        case rel => exact ⟨j, by omega, Hd.out, by go_num⟩
        case measure => simp [intOf]
    · have hz : k = 0 ∨ ∃ h : k - 1 < s.data.toList.length, isDig (s.data.toList[k - 1]) = true := by
        by_cases h0 : k = 0
        · exact .inl h0
        · refine .inr ⟨by rw [len_eq]; omega, ?_⟩
          by_cases hx : isDig (s[k - 1]'(by omega)) = true
          · exact hx
          · exact absurd ⟨k - 1, by omega, by omega, eq_false_of_ne_true hx⟩ hc
      have hcut : k = 0 ∨ ∃ j, ∃ h : j < s.size, k = j + 1 ∧ (48 ≤ s[j].toNat ∧ s[j].toNat ≤ 57) := by
        by_cases h0 : k = 0
        · exact .inl h0
        · refine .inr ⟨k - 1, by omega, by omega, ?_⟩
          rw [← isDig_iff]
          by_cases hx : isDig (s[k - 1]'(by omega)) = true
          · exact hx
          · exact absurd ⟨k - 1, by omega, by omega, eq_false_of_ne_true hx⟩ hc
      have HB := Lib.hid (szE_back (l := s.data.toList) (k := k) (by rw [len_eq]; exact hk) (fun j h h2 => hd j (by rw [len_eq] at h; exact h) h2) hz)
      have Hd := Lib.hid hd
      clear hd hz hc
      have HT := Lib.hid (ext_take s k)
      have HD := Lib.hid (ext_drop s k)
      have hsz1 := ext_size s 0 k hs
      have hsz2 := ext_size s k s.size hs
      rcases hcut with rfl | ⟨j, hlt, rfl, hcut⟩
      · cases hu : unitOf s.data.toList with
        | none =>
          have HU := Lib.hid hu
          clear hu
          have HR : Hid (szE s.data.toList = 3 ∧ szV s.data.toList = 0) := Lib.hid (HB.out.1 HU.out)
          go_wp2_with (go_at_call 60; ((with_reducible refine (kunitF _ _ hs HU.out).mono ?_); rintro e w' ⟨rfl, rfl⟩))
          go_ret2
          exact ⟨ret2 HR.out.2.symm HR.out.1.symm, 0, rfl⟩
        | some u =>
          have HU := Lib.hid hu
          have hu3 := unitOf_le hu
          clear hu
          have HR : Hid (szE s.data.toList = cntE (s.extract 0 0).data.toList (mostU u) ∧ szV s.data.toList = cntV (s.extract 0 0).data.toList (mostU u) * longU u) := Lib.hid (by rw [HT.out]; exact HB.out.2 u HU.out)
          have hc3 : u = 0 ∨ u = 1 ∨ u = 2 ∨ u = 3 := by omega
          rcases hc3 with rfl | rfl | rfl | rfl
          · have hb := cntV_bd [] 1125899906842624 (by omega)
            obtain ⟨hb1, hb2⟩ := hb
            have HE : Hid (szE s.data.toList = cntE [] 1125899906842624 ∧ szV s.data.toList = cntV [] 1125899906842624 * 1) := Lib.hid (by rw [HR.out.1, HR.out.2, HT.out]; exact ⟨rfl, rfl⟩)
            go_wp2_with (go_at_call 60; ((with_reducible refine (kunitT _ _ 0 HU.out).mono ?_); rintro e w' ⟨rfl, rfl⟩))
            go_quiet ((go_at_call 21; exact quiet_left (kCount _ _ _ (by simp) (by omega))))
            go_wp2
            go_ret2
            exact ⟨ret2 (by rw [HE.out.2]; try (exact (Int.mul_one _).symm)) HE.out.1.symm, _, rfl⟩
          · have hb := cntV_bd [] 1099511627776 (by omega)
            obtain ⟨hb1, hb2⟩ := hb
            have HE : Hid (szE s.data.toList = cntE [] 1099511627776 ∧ szV s.data.toList = cntV [] 1099511627776 * 1024) := Lib.hid (by rw [HR.out.1, HR.out.2, HT.out]; exact ⟨rfl, rfl⟩)
            go_wp2_with (go_at_call 60; ((with_reducible refine (kunitT _ _ 1 HU.out).mono ?_); rintro e w' ⟨rfl, rfl⟩))
            go_quiet ((go_at_call 21; exact quiet_left (kCount _ _ _ (by simp) (by omega))))
            go_wp2
            go_ret2
            exact ⟨ret2 (by rw [HE.out.2]) HE.out.1.symm, _, rfl⟩
          · have hb := cntV_bd [] 1073741824 (by omega)
            obtain ⟨hb1, hb2⟩ := hb
            have HE : Hid (szE s.data.toList = cntE [] 1073741824 ∧ szV s.data.toList = cntV [] 1073741824 * 1048576) := Lib.hid (by rw [HR.out.1, HR.out.2, HT.out]; exact ⟨rfl, rfl⟩)
            go_wp2_with (go_at_call 60; ((with_reducible refine (kunitT _ _ 2 HU.out).mono ?_); rintro e w' ⟨rfl, rfl⟩))
            go_quiet ((go_at_call 21; exact quiet_left (kCount _ _ _ (by simp) (by omega))))
            go_wp2
            go_ret2
            exact ⟨ret2 (by rw [HE.out.2]) HE.out.1.symm, _, rfl⟩
          · have hb := cntV_bd [] 1048576 (by omega)
            obtain ⟨hb1, hb2⟩ := hb
            have HE : Hid (szE s.data.toList = cntE [] 1048576 ∧ szV s.data.toList = cntV [] 1048576 * 1073741824) := Lib.hid (by rw [HR.out.1, HR.out.2, HT.out]; exact ⟨rfl, rfl⟩)
            go_wp2_with (go_at_call 60; ((with_reducible refine (kunitT _ _ 3 HU.out).mono ?_); rintro e w' ⟨rfl, rfl⟩))
            go_quiet ((go_at_call 21; exact quiet_left (kCount _ _ _ (by simp) (by omega))))
            go_wp2
            go_ret2
            exact ⟨ret2 (by rw [HE.out.2]) HE.out.1.symm, _, rfl⟩
      · cases hu : unitOf (s.extract (j + 1) s.size).data.toList with
        | none =>
          have HU := Lib.hid hu
          clear hu
          have HR : Hid (szE s.data.toList = 3 ∧ szV s.data.toList = 0) := Lib.hid (HB.out.1 (by rw [← HD.out]; exact HU.out))
          go_wp2_with (go_at_call 60; ((with_reducible refine (kunitF _ _ hsz2 HU.out).mono ?_); rintro e w' ⟨rfl, rfl⟩))
          go_ret2
          exact ⟨ret2 HR.out.2.symm HR.out.1.symm, 0, rfl⟩
        | some u =>
          have HU := Lib.hid hu
          have hu3 := unitOf_le hu
          clear hu
          have HR : Hid (szE s.data.toList = cntE (s.extract 0 (j + 1)).data.toList (mostU u) ∧ szV s.data.toList = cntV (s.extract 0 (j + 1)).data.toList (mostU u) * longU u) := Lib.hid (by rw [HT.out]; exact HB.out.2 u (by rw [← HD.out]; exact HU.out))
          have hc3 : u = 0 ∨ u = 1 ∨ u = 2 ∨ u = 3 := by omega
          rcases hc3 with rfl | rfl | rfl | rfl
          · have hb := cntV_bd (s.data.toList.take (j + 1)) 1125899906842624 (by omega)
            obtain ⟨hb1, hb2⟩ := hb
            have HE : Hid (szE s.data.toList = cntE (s.data.toList.take (j + 1)) 1125899906842624 ∧ szV s.data.toList = cntV (s.data.toList.take (j + 1)) 1125899906842624 * 1) := Lib.hid (by rw [HR.out.1, HR.out.2, HT.out]; exact ⟨rfl, rfl⟩)
            go_wp2_with (go_at_call 60; ((with_reducible refine (kunitT _ _ 0 HU.out).mono ?_); rintro e w' ⟨rfl, rfl⟩))
            go_quiet ((go_at_call 21; exact quiet_left (kCount _ _ _ hsz1 (by omega))))
            go_wp2
            go_ret2
            exact ⟨ret2 (by rw [HE.out.2]; try (exact (Int.mul_one _).symm)) HE.out.1.symm, _, rfl⟩
          · have hb := cntV_bd (s.data.toList.take (j + 1)) 1099511627776 (by omega)
            obtain ⟨hb1, hb2⟩ := hb
            have HE : Hid (szE s.data.toList = cntE (s.data.toList.take (j + 1)) 1099511627776 ∧ szV s.data.toList = cntV (s.data.toList.take (j + 1)) 1099511627776 * 1024) := Lib.hid (by rw [HR.out.1, HR.out.2, HT.out]; exact ⟨rfl, rfl⟩)
            go_wp2_with (go_at_call 60; ((with_reducible refine (kunitT _ _ 1 HU.out).mono ?_); rintro e w' ⟨rfl, rfl⟩))
            go_quiet ((go_at_call 21; exact quiet_left (kCount _ _ _ hsz1 (by omega))))
            go_wp2
            go_ret2
            exact ⟨ret2 (by rw [HE.out.2]) HE.out.1.symm, _, rfl⟩
          · have hb := cntV_bd (s.data.toList.take (j + 1)) 1073741824 (by omega)
            obtain ⟨hb1, hb2⟩ := hb
            have HE : Hid (szE s.data.toList = cntE (s.data.toList.take (j + 1)) 1073741824 ∧ szV s.data.toList = cntV (s.data.toList.take (j + 1)) 1073741824 * 1048576) := Lib.hid (by rw [HR.out.1, HR.out.2, HT.out]; exact ⟨rfl, rfl⟩)
            go_wp2_with (go_at_call 60; ((with_reducible refine (kunitT _ _ 2 HU.out).mono ?_); rintro e w' ⟨rfl, rfl⟩))
            go_quiet ((go_at_call 21; exact quiet_left (kCount _ _ _ hsz1 (by omega))))
            go_wp2
            go_ret2
            exact ⟨ret2 (by rw [HE.out.2]) HE.out.1.symm, _, rfl⟩
          · have hb := cntV_bd (s.data.toList.take (j + 1)) 1048576 (by omega)
            obtain ⟨hb1, hb2⟩ := hb
            have HE : Hid (szE s.data.toList = cntE (s.data.toList.take (j + 1)) 1048576 ∧ szV s.data.toList = cntV (s.data.toList.take (j + 1)) 1048576 * 1073741824) := Lib.hid (by rw [HR.out.1, HR.out.2, HT.out]; exact ⟨rfl, rfl⟩)
            go_wp2_with (go_at_call 60; ((with_reducible refine (kunitT _ _ 3 HU.out).mono ?_); rintro e w' ⟨rfl, rfl⟩))
            go_quiet ((go_at_call 21; exact quiet_left (kCount _ _ _ hsz1 (by omega))))
            go_wp2
            go_ret2
            exact ⟨ret2 (by rw [HE.out.2]) HE.out.1.symm, _, rfl⟩
end Go.Proofs.Ytglihjdbbpohlaa.W
