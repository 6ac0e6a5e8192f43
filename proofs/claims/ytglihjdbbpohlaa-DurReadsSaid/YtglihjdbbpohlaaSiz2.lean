/- Contracts of the two readers of amounts. -/
import Derived.Test.YtglihjdbbpohlaaSiz1
import Derived.Test.YtglihjdbbpohlaaPlS
import Derived.Lib.IndexBytes
namespace Go.Proofs.Ytglihjdbbpohlaa.W
open Go.RowKit Go.Proofs.Ytglihjdbbpohlaa.Pl

theorem ext_take (s : ByteArray) (k : Nat) : (s.extract 0 k).data.toList = s.data.toList.take k := by rw [Lib.extract_data]; simp
theorem ext_drop (s : ByteArray) (k : Nat) : (s.extract k s.size).data.toList = s.data.toList.drop k := Lib.extract_to_end s k
theorem ext_size (s : ByteArray) (a b : Nat) (h : s.size ≤ 140737488355328) : (s.extract a b).size ≤ 140737488355328 := by rw [ByteArray.size_extract]; omega
theorem get_data (s : ByteArray) (k : Nat) (h : k < s.size) : s.data.toList[k]'(by rw [len_eq]; exact h) = s[k] := rfl

theorem lead_of (s : ByteArray) (k : Nat) (hk : k ≤ s.size) (hd : allDig (s.data.toList.take k) = true) (h2 : k = s.size ∨ ∃ h : k < s.size, isDig s[k] = false) : lead s.data.toList = k := by
  refine lead_eq (by rw [len_eq]; exact hk) hd fun h => ?_
  rw [len_eq] at h
  rcases h2 with rfl | ⟨h', h2⟩
  · omega
  · exact h2

theorem klongC (s : ByteArray) (w : World) (u : Nat) (h : unitOf s.data.toList = some u) (c : Int) (hc : longU u = c) :
    Calls Try.prog 61 #[.string s] w fun e w' => e = .returned (.int .i64 c) ∧ w = w' := by
  refine (klongT s w u h).mono fun e w' ⟨he, hw⟩ => ⟨?_, hw⟩
  rw [he, ← hc]
  refine ret_int ?_
  have := unitOf_le h
  rcases (show u = 0 ∨ u = 1 ∨ u = 2 ∨ u = 3 by omega) with rfl | rfl | rfl | rfl <;> decide

theorem kValueC (s : ByteArray) (w : World) (hs : s.size ≤ 140737488355328) (hd : allDig s.data.toList = true) (c : Int) (hc : valS s.data.toList = c) :
    Calls Try.prog 63 #[.string s] w fun e w' => e = .returned (.int .i64 c) ∧ w = w' :=
  hc ▸ kValue s w hs hd

set_option maxRecDepth 100000 in
set_option maxHeartbeats 4000000 in
theorem kRefSizeParse (s : ByteArray) (w : World) (hs : s.size ≤ 140737488355328) :
    Calls Try.prog 17 #[.string s] w fun e w' => e = .returned (.tuple #[.int .i64 (szV s.data.toList), .int .i64 (szE s.data.toList)]) ∧ w = w' := by
  go_enter Try.func17, Try.ntmps17
  go_wp2_with fail
  go_loop [4] (fun i => ∃ k : Nat, k ≤ s.size ∧ Hid (allDig (s.data.toList.take k) = true) ∧ i = .int .i64 k) (fun i => s.size - (intOf i).toNat)
  case atStart => exact ⟨0, Nat.zero_le _, Lib.hid rfl, rfl⟩
  case round =>
    obtain ⟨k, hk, hd, rfl⟩ := hrel
    by_cases hc : ∃ h : k < s.size, isDig s[k] = true
    · obtain ⟨hlt, hc⟩ := hc
      have HA : Hid (allDig (s.data.toList.take (k + 1)) = true) := Lib.hid (by rw [allDig_take s k hlt, hd.out, hc]; rfl)
      have hc' := (isDig_iff _).1 hc
      clear hc
      go_wp2_with fail
      go_round
      case rel => exact ⟨k + 1, by omega, HA, by go_num⟩
      case measure => simp [intOf]; omega
    · have hend : k = s.size ∨ ∃ h : k < s.size, isDig s[k] = false := by
        by_cases hlt : k < s.size
        · exact .inr ⟨hlt, eq_false_of_ne_true fun h => hc ⟨hlt, h⟩⟩
        · exact .inl (by omega)
      have HK := Lib.hid (lead_of s k hk hd.out hend)
      have hsz1 := ext_size s 0 k hs
      have hcut : (¬ k < s.size) ∨ (∃ h : k < s.size, s[k].toNat < 48 ∨ 57 < s[k].toNat) := by
        rcases hend with h | ⟨h, h2⟩
        · exact .inl (by omega)
        · exact .inr ⟨h, (isDig_false _).1 h2⟩
      have HT := Lib.hid (ext_take s k)
      have HD := Lib.hid (ext_drop s k)
      have hsz2 := ext_size s k s.size hs
      have Hd : Hid (allDig (s.extract 0 k).data.toList = true) := Lib.hid (by rw [HT.out]; exact hd.out)
      clear hc hend hd
      cases hu : unitOf (s.extract k s.size).data.toList with
      | none =>
        have HU := Lib.hid hu
        clear hu
        have HR : Hid (szV s.data.toList = 0 ∧ szE s.data.toList = 3) := Lib.hid (by
          have := HU.out
          rw [HD.out, ← HK.out] at this
          exact ⟨szV_none this, szE_none this⟩)
        rcases hcut with hcut | ⟨hlt, hcut | hcut⟩
        all_goals
          go_wp2_with (go_at_call 61; refine (klongF _ _ HU.out).mono ?_; rintro e w' ⟨rfl, rfl⟩)
          go_ret2
          exact ⟨ret2 HR.out.1.symm HR.out.2.symm, rfl⟩
      | some u =>
        have HU := Lib.hid hu
        have hu3 := unitOf_le hu
        clear hu
        have HR : Hid (szV s.data.toList = cntV (s.extract 0 k).data.toList (mostU u) * longU u ∧ szE s.data.toList = cntE (s.extract 0 k).data.toList (mostU u)) := Lib.hid (by
          have := HU.out
          rw [HD.out, ← HK.out] at this
          rw [HT.out]
          exact ⟨by rw [szV_some this, HK.out], by rw [szE_some this, HK.out]⟩)
        cases hw : wholeB (s.extract 0 k).data.toList
        · have HW := Lib.hid hw
          clear hw
          have HR2 : Hid (szV s.data.toList = 0 ∧ szE s.data.toList = 3) := Lib.hid (by
            rw [HR.out.1, HR.out.2, cntV_bad HW.out, cntE_bad (by unfold mostU; split <;> (try split) <;> (try split) <;> omega) HW.out]
            exact ⟨by omega, rfl⟩)
          have hl0 : (longU u == 0) = false := by unfold longU; split <;> (try split) <;> (try split) <;> rfl
          generalize hc : longU u = c at *
          have Hc := Lib.hid hc
          clear hc
          rcases hcut with hcut | ⟨hlt, hcut | hcut⟩
          all_goals
            go_wp2_with (first | (go_at_call 61; refine (klongC _ _ u HU.out c Hc.out).mono ?_; rintro e w' ⟨rfl, rfl⟩) | (go_at_call 62; refine (kWholeF _ _ hsz1 HW.out).mono ?_; rintro e w' ⟨rfl, rfl⟩))
            go_ret2
            exact ⟨ret2 HR2.out.1.symm HR2.out.2.symm, rfl⟩
        · have HW := Lib.hid hw
          clear hw
          have hvr : valS (s.extract 0 k).data.toList ≤ mostU u ∨ mostU u < valS (s.extract 0 k).data.toList := by omega
          have hm : mostU u ≤ 1125899906842624 ∧ 0 ≤ mostU u := by unfold mostU; split <;> (try split) <;> (try split) <;> omega
          have hv0 : 0 ≤ valS (s.extract 0 k).data.toList := by unfold valS; split <;> omega
          have HG : Hid ((valS (s.extract 0 k).data.toList ≤ mostU u → szV s.data.toList = valS (s.extract 0 k).data.toList * longU u ∧ szE s.data.toList = 0) ∧ (mostU u < valS (s.extract 0 k).data.toList → szV s.data.toList = 0 ∧ szE s.data.toList = 9)) := Lib.hid (by
            rw [HR.out.1, HR.out.2]
            refine ⟨fun h => ?_, fun h => ?_⟩
            · have e := valS_le hm.1 (Int.not_lt.2 h)
              rw [e] at h ⊢
              rw [cntV_ok HW.out h, cntE_ok HW.out h]; exact ⟨rfl, rfl⟩
            · rw [valS_gt _ _ hm.1] at h
              rw [cntV_big h, cntE_big hm.2 HW.out h]; exact ⟨by omega, rfl⟩)
          generalize hn : valS (s.extract 0 k).data.toList = n at *
          have Hn := Lib.hid hn
          clear hn hm
          have hc3 : u = 0 ∨ u = 1 ∨ u = 2 ∨ u = 3 := by omega
          rcases hc3 with rfl | rfl | rfl | rfl
          · have Hc : Hid (longU 0 = 1) := Lib.hid rfl
            have Hm : mostU 0 = 1125899906842624 := rfl
            rw [Hm] at hvr HG
            rw [Hc.out, Int.mul_one] at HG
            clear Hm HR
            rcases hvr with hv | hv
            · rcases hcut with hcut | ⟨hlt, hcut | hcut⟩
              all_goals
                go_wp2_with (first | (go_at_call 61; refine (klongC _ _ 0 HU.out 1 Hc.out).mono ?_; rintro e w' ⟨rfl, rfl⟩) | (go_at_call 62; refine (kWholeT _ _ hsz1 HW.out).mono ?_; rintro e w' ⟨rfl, rfl⟩) | (go_at_call 63; refine (kValueC _ _ hsz1 Hd.out n Hn.out).mono ?_; rintro e w' ⟨rfl, rfl⟩))
                go_ret2
                exact ⟨ret2 (HG.out.1 hv).1.symm (HG.out.1 hv).2.symm, rfl⟩
            · rcases hcut with hcut | ⟨hlt, hcut | hcut⟩
              all_goals
                go_wp2_with (first | (go_at_call 61; refine (klongC _ _ 0 HU.out 1 Hc.out).mono ?_; rintro e w' ⟨rfl, rfl⟩) | (go_at_call 62; refine (kWholeT _ _ hsz1 HW.out).mono ?_; rintro e w' ⟨rfl, rfl⟩) | (go_at_call 63; refine (kValueC _ _ hsz1 Hd.out n Hn.out).mono ?_; rintro e w' ⟨rfl, rfl⟩))
                go_ret2
                exact ⟨ret2 (HG.out.2 hv).1.symm (HG.out.2 hv).2.symm, rfl⟩
          · have Hc : Hid (longU 1 = 1024) := Lib.hid rfl
            have Hm : mostU 1 = 1099511627776 := rfl
            rw [Hm] at hvr HG
            rw [Hc.out] at HG
            clear Hm HR
            rcases hvr with hv | hv
            · rcases hcut with hcut | ⟨hlt, hcut | hcut⟩
              all_goals
                go_wp2_with (first | (go_at_call 61; refine (klongC _ _ 1 HU.out 1024 Hc.out).mono ?_; rintro e w' ⟨rfl, rfl⟩) | (go_at_call 62; refine (kWholeT _ _ hsz1 HW.out).mono ?_; rintro e w' ⟨rfl, rfl⟩) | (go_at_call 63; refine (kValueC _ _ hsz1 Hd.out n Hn.out).mono ?_; rintro e w' ⟨rfl, rfl⟩))
                go_ret2
                exact ⟨ret2 (HG.out.1 hv).1.symm (HG.out.1 hv).2.symm, rfl⟩
            · rcases hcut with hcut | ⟨hlt, hcut | hcut⟩
              all_goals
                go_wp2_with (first | (go_at_call 61; refine (klongC _ _ 1 HU.out 1024 Hc.out).mono ?_; rintro e w' ⟨rfl, rfl⟩) | (go_at_call 62; refine (kWholeT _ _ hsz1 HW.out).mono ?_; rintro e w' ⟨rfl, rfl⟩) | (go_at_call 63; refine (kValueC _ _ hsz1 Hd.out n Hn.out).mono ?_; rintro e w' ⟨rfl, rfl⟩))
                go_ret2
                exact ⟨ret2 (HG.out.2 hv).1.symm (HG.out.2 hv).2.symm, rfl⟩
          · have Hc : Hid (longU 2 = 1048576) := Lib.hid rfl
            have Hm : mostU 2 = 1073741824 := rfl
            rw [Hm] at hvr HG
            rw [Hc.out] at HG
            clear Hm HR
            rcases hvr with hv | hv
            · rcases hcut with hcut | ⟨hlt, hcut | hcut⟩
              all_goals
                go_wp2_with (first | (go_at_call 61; refine (klongC _ _ 2 HU.out 1048576 Hc.out).mono ?_; rintro e w' ⟨rfl, rfl⟩) | (go_at_call 62; refine (kWholeT _ _ hsz1 HW.out).mono ?_; rintro e w' ⟨rfl, rfl⟩) | (go_at_call 63; refine (kValueC _ _ hsz1 Hd.out n Hn.out).mono ?_; rintro e w' ⟨rfl, rfl⟩))
                go_ret2
                exact ⟨ret2 (HG.out.1 hv).1.symm (HG.out.1 hv).2.symm, rfl⟩
            · rcases hcut with hcut | ⟨hlt, hcut | hcut⟩
              all_goals
                go_wp2_with (first | (go_at_call 61; refine (klongC _ _ 2 HU.out 1048576 Hc.out).mono ?_; rintro e w' ⟨rfl, rfl⟩) | (go_at_call 62; refine (kWholeT _ _ hsz1 HW.out).mono ?_; rintro e w' ⟨rfl, rfl⟩) | (go_at_call 63; refine (kValueC _ _ hsz1 Hd.out n Hn.out).mono ?_; rintro e w' ⟨rfl, rfl⟩))
                go_ret2
                exact ⟨ret2 (HG.out.2 hv).1.symm (HG.out.2 hv).2.symm, rfl⟩
          · have Hc : Hid (longU 3 = 1073741824) := Lib.hid rfl
            have Hm : mostU 3 = 1048576 := rfl
            rw [Hm] at hvr HG
            rw [Hc.out] at HG
            clear Hm HR
            rcases hvr with hv | hv
            · rcases hcut with hcut | ⟨hlt, hcut | hcut⟩
              all_goals
                go_wp2_with (first | (go_at_call 61; refine (klongC _ _ 3 HU.out 1073741824 Hc.out).mono ?_; rintro e w' ⟨rfl, rfl⟩) | (go_at_call 62; refine (kWholeT _ _ hsz1 HW.out).mono ?_; rintro e w' ⟨rfl, rfl⟩) | (go_at_call 63; refine (kValueC _ _ hsz1 Hd.out n Hn.out).mono ?_; rintro e w' ⟨rfl, rfl⟩))
                go_ret2
                exact ⟨ret2 (HG.out.1 hv).1.symm (HG.out.1 hv).2.symm, rfl⟩
            · rcases hcut with hcut | ⟨hlt, hcut | hcut⟩
              all_goals
                go_wp2_with (first | (go_at_call 61; refine (klongC _ _ 3 HU.out 1073741824 Hc.out).mono ?_; rintro e w' ⟨rfl, rfl⟩) | (go_at_call 62; refine (kWholeT _ _ hsz1 HW.out).mono ?_; rintro e w' ⟨rfl, rfl⟩) | (go_at_call 63; refine (kValueC _ _ hsz1 Hd.out n Hn.out).mono ?_; rintro e w' ⟨rfl, rfl⟩))
                go_ret2
                exact ⟨ret2 (HG.out.2 hv).1.symm (HG.out.2 hv).2.symm, rfl⟩
end Go.Proofs.Ytglihjdbbpohlaa.W
