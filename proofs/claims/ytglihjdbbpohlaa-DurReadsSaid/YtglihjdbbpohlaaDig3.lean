/- Contracts of the reference's Count and Parse, and of digit.Parse. -/
import Derived.Test.YtglihjdbbpohlaaDig2
namespace Go.Proofs.Ytglihjdbbpohlaa.W
open Go.RowKit Go.Proofs.Ytglihjdbbpohlaa.Pl

theorem kWholeT (s : ByteArray) (w : World) (hs : s.size ≤ 140737488355328) (h : wholeB s.data.toList = true) :
    Calls Try.prog 62 #[.string s] w fun e w' => e = .returned (.bool true) ∧ w = w' :=
  (kWhole s w hs).mono fun _ _ ⟨he, hw⟩ => ⟨by rw [he, h], hw⟩
theorem kWholeF (s : ByteArray) (w : World) (hs : s.size ≤ 140737488355328) (h : wholeB s.data.toList = false) :
    Calls Try.prog 62 #[.string s] w fun e w' => e = .returned (.bool false) ∧ w = w' :=
  (kWhole s w hs).mono fun _ _ ⟨he, hw⟩ => ⟨by rw [he, h], hw⟩

set_option maxHeartbeats 1000000 in
theorem kRefCount (s : ByteArray) (most : Int) (w : World) (hs : s.size ≤ 140737488355328) (hm1 : most ≤ 9223372036854775807) :
    Calls Try.prog 24 #[.string s, .int .i64 most] w fun e w' => e = .returned (.tuple #[.int .i64 (cntV s.data.toList most), .int .i64 (cntE s.data.toList most)]) ∧ w = w' := by
  by_cases hm : most < 0
  · go_enter Try.func24, Try.ntmps24
    go_wp2_with fail
    go_ret2
    exact ⟨ret2 (cntV_neg hm).symm (cntE_neg hm).symm, rfl⟩
  · cases hW : wholeB s.data.toList
    · have HW := Lib.hid hW
      clear hW
      go_enter Try.func24, Try.ntmps24
      go_wp2_with (go_at_call 62; refine (kWholeF s _ hs HW.out).mono ?_; rintro e w' ⟨rfl, rfl⟩)
      go_ret2
      exact ⟨ret2 (cntV_bad HW.out).symm (cntE_bad (by omega) HW.out).symm, rfl⟩
    · have HW := Lib.hid hW
      have hdg := wholeB_dig hW
      clear hW
      by_cases hl : 19 < s.size
      · have hbig := wholeB_long HW.out (by rw [len_eq]; exact hl)
        have HB : Hid (most < val s.data.toList) := Lib.hid (by omega)
        clear hbig hdg
        go_enter Try.func24, Try.ntmps24
        go_wp2_with (go_at_call 62; refine (kWholeT s _ hs HW.out).mono ?_; rintro e w' ⟨rfl, rfl⟩)
        go_ret2
        exact ⟨ret2 (cntV_big HB.out).symm (cntE_big (by omega) HW.out HB.out).symm, rfl⟩
      · have hsm := val_short hdg (by rw [len_eq]; omega)
        have HD := Lib.hid hdg
        clear hdg
        go_enter Try.func24, Try.ntmps24
        go_wp2_with (go_at_call 62; refine (kWholeT s _ hs HW.out).mono ?_; rintro e w' ⟨rfl, rfl⟩)
        go_loop [6, 7] (fun n i => ∃ k : Nat, k ≤ s.size ∧ n = .int .u64 (val (s.data.toList.take k)) ∧ i = .int .i64 k) (fun _ i => s.size - (intOf i).toNat)
        case atStart => exact ⟨0, Nat.zero_le _, by rw [List.take_zero]; rfl, rfl⟩
        case round =>
          obtain ⟨k, hk, rfl, rfl⟩ := hrel
          by_cases hlt : k < s.size
          · have HS := Lib.hid (val_take s k hlt)
            have hg := allDig_get s HD.out k hlt
            have hle := val_take_all_le s (k + 1)
            rw [HS.out] at hle
            generalize hn : val (s.data.toList.take k) = n at *
            clear hn
            go_wp2
            go_round
            case rel => exact ⟨k + 1, by omega, by rw [HS.out]; congr 1; omega, by go_num⟩
            case measure => simp [intOf]; omega
          · have HT := Lib.hid (take_all s k (by omega))
            have hle := val_take_all_le s k
            have hsm2 : val (s.data.toList.take k) < 10000000000000000000 := by omega
            by_cases hv : most < val (s.data.toList.take k)
            · go_wp2
              go_ret2
              rw [HT.out] at hv
              exact ⟨ret2 (cntV_big hv).symm (cntE_big (by omega) HW.out hv).symm, rfl⟩
            · go_wp2
              go_ret2
              rw [HT.out] at hv ⊢
              exact ⟨ret2 (cntV_ok HW.out (by omega)).symm (cntE_ok HW.out (by omega)).symm, rfl⟩
end Go.Proofs.Ytglihjdbbpohlaa.W
