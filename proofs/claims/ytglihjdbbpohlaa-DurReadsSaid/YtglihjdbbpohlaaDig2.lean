/- Contracts of whole and Count. -/
import Derived.Test.YtglihjdbbpohlaaDig1
namespace Go.Proofs.Ytglihjdbbpohlaa.W
open Go.RowKit Go.Proofs.Ytglihjdbbpohlaa.Pl

/-- what a round's head knows of the number and the flag -/
def WholeAt (s : ByteArray) (most : Int) (k : Nat) (n o : Go.Value) : Prop :=
  allDig (s.data.toList.take k) = true ∧ (((val (s.data.toList.take k) : Int) ≤ most ∧ n = .int .i64 (val (s.data.toList.take k)) ∧ o = .bool false) ∨ (most < val (s.data.toList.take k) ∧ (∃ m : Int, n = .int .i64 m) ∧ o = .bool true))

theorem ret2 {k1 k2 : IntKind} {a b c d : Int} (h1 : a = b) (h2 : c = d) : Ending.returned (.tuple #[.int k1 a, .int k2 c]) = .returned (.tuple #[.int k1 b, .int k2 d]) := by rw [h1, h2]

set_option maxHeartbeats 1000000 in
theorem kwhole_loop (s : ByteArray) (most : Int) (w : World) (hs : s.size ≤ 140737488355328) (hm0 : 0 ≤ most) (hm1 : most ≤ 9223372036854775807) (h1 : 0 < s.size) (h0 : s.size = 1 ∨ s[0].toNat ≠ 48) :
    Calls Try.prog 65 #[.string s, .int .i64 most] w fun e w' => e = .returned (.tuple #[.int .i64 (cntV s.data.toList most), .int .i64 (cntE s.data.toList most)]) ∧ w = w' := by
  have HW := Lib.hid (wholeB_rest s h1 h0)
  have e0 : s.toList.isEmpty = false := toList_isEmpty s h1
  have e1 : ((1 : Int) < s.size ∧ ((s[0].toNat : Int) == 48) = false) ∨ (s.size : Int) ≤ 1 := by
    by_cases hx : (1 : Int) < s.size
    · exact .inl ⟨hx, beqF (by rcases h0 with h0 | h0 <;> omega)⟩
    · exact .inr (by omega)
  clear h0
  rcases e1 with ⟨e1, e2⟩ | e1
  all_goals
    go_enter Try.func65, Try.ntmps65
    go_wp2
    go_loop [6, 7, 24] (fun n o i => ∃ k : Nat, k ≤ s.size ∧ WholeAt s most k n o ∧ i = .int .i64 k) (fun _ _ i => s.size - (intOf i).toNat)
    case atStart => exact ⟨0, Nat.zero_le _, ⟨by rw [List.take_zero]; rfl, .inl ⟨by rw [List.take_zero]; simpa [val] using hm0, rfl, rfl⟩⟩, rfl⟩
    case round =>
      obtain ⟨k, hk, ⟨hd, hn⟩, rfl⟩ := hrel
      have HD := Lib.hid hd
      clear hd
      by_cases hlt : k < s.size
      · by_cases hc : isDig s[k] = true
        · have hc' := (isDig_iff _).1 hc
          have HA : Hid (allDig (s.data.toList.take (k + 1)) = true) := Lib.hid (by rw [allDig_take s k hlt, HD.out, hc]; rfl)
          have HS := Lib.hid (val_take s k hlt)
          clear hc
          rcases hn with ⟨hv, rfl, rfl⟩ | ⟨hv, ⟨m, rfl⟩, rfl⟩
          · generalize hn : val (s.data.toList.take k) = n at *
            clear hn
            by_cases hb : most < (s[k].toNat : Int) - 48
            · have ht : (most - ((s[k].toNat : Int) - 48)).tdiv 10 = 0 := by
                rw [← Int.neg_neg (most - ((s[k].toNat : Int) - 48)), Int.neg_tdiv, Int.tdiv_eq_ediv_of_nonneg (by omega)]; omega
              by_cases hz : 0 < n
              all_goals
                go_wp2
                go_round
                case rel => exact ⟨k + 1, by omega, ⟨HA.out, .inr ⟨by rw [HS.out]; omega, ⟨_, rfl⟩, rfl⟩⟩, by go_num⟩
                case measure => simp [intOf]; omega
            · by_cases hb2 : (most - ((s[k].toNat : Int) - 48)) / 10 < n
              · go_wp2
                go_round
                case rel => exact ⟨k + 1, by omega, ⟨HA.out, .inr ⟨by rw [HS.out]; omega, ⟨_, rfl⟩, rfl⟩⟩, by go_num⟩
                case measure => simp [intOf]; omega
              · go_wp2
                go_round
                case rel => exact ⟨k + 1, by omega, ⟨HA.out, .inl ⟨by rw [HS.out]; omega, by rw [HS.out]; congr 1; omega, rfl⟩⟩, by go_num⟩
                case measure => simp [intOf]; omega
          · go_wp2
            go_round
            case rel => exact ⟨k + 1, by omega, ⟨HA.out, .inr ⟨by rw [HS.out]; omega, ⟨_, rfl⟩, rfl⟩⟩, by go_num⟩
            case measure => simp [intOf]; omega
        · have hc := eq_false_of_ne_true hc
          have hb := Lib.hid (allDig_bad s k hlt hc)
          have hc' := (isDig_false _).1 hc
          have hub := UInt8.toNat_lt s[k]
          clear hc
          rcases hn with ⟨hv, rfl, rfl⟩ | ⟨hv, ⟨m, rfl⟩, rfl⟩
          all_goals
            rcases hc' with hc' | hc'
            all_goals
              go_wp2
              go_ret2
              exact ⟨ret2 (cntV_bad (HW.out.trans hb.out)).symm (cntE_bad hm0 (HW.out.trans hb.out)).symm, rfl⟩
      · have HT := Lib.hid (take_all s k (by omega))
        rw [HT.out] at HD
        rcases hn with ⟨hv, rfl, rfl⟩ | ⟨hv, ⟨m, rfl⟩, rfl⟩
        · have HV := Lib.hid hv
          clear hv
          go_wp2
          go_ret2
          exact ⟨ret2 (by rw [cntV_ok (HW.out.trans HD.out) (by have := HV.out; rwa [HT.out] at this), HT.out]) (cntE_ok (HW.out.trans HD.out) (by have := HV.out; rwa [HT.out] at this)).symm, rfl⟩
        · have HV := Lib.hid hv
          clear hv
          go_wp2
          go_ret2
          exact ⟨ret2 (by rw [cntV_big (by have := HV.out; rwa [HT.out] at this)]) (cntE_big hm0 (HW.out.trans HD.out) (by have := HV.out; rwa [HT.out] at this)).symm, rfl⟩

theorem kwhole (s : ByteArray) (most : Int) (w : World) (hs : s.size ≤ 140737488355328) (hm0 : 0 ≤ most) (hm1 : most ≤ 9223372036854775807) :
    Calls Try.prog 65 #[.string s, .int .i64 most] w fun e w' => e = .returned (.tuple #[.int .i64 (cntV s.data.toList most), .int .i64 (cntE s.data.toList most)]) ∧ w = w' := by
  by_cases h1 : s.size = 0
  · obtain rfl := empty_of_size s h1
    clear h1
    go_enter Try.func65, Try.ntmps65
    go_wp2
    go_ret2
    exact ⟨ret2 (cntV_bad wholeB_nil).symm (cntE_bad hm0 wholeB_nil).symm, rfl⟩
  · have h1' : 0 < s.size := by omega
    by_cases h2 : s.size = 1
    · exact kwhole_loop s most w hs hm0 hm1 h1' (.inl h2)
    · by_cases h3 : s[0].toNat = 48
      · have HW := Lib.hid (wholeB_zero s (by omega) h3)
        have e0 : s.toList.isEmpty = false := toList_isEmpty s h1'
        have e1 : (1 : Int) < s.size := by omega
        have e2 : ((s[0].toNat : Int) == 48) = true := beqT (by omega)
        clear h1 h2 h3
        go_enter Try.func65, Try.ntmps65
        go_wp2
        go_ret2
        exact ⟨ret2 (cntV_bad HW.out).symm (cntE_bad hm0 HW.out).symm, rfl⟩
      · exact kwhole_loop s most w hs hm0 hm1 h1' (.inr h3)

/-- digit.Count -/
theorem kCount (s : ByteArray) (most : Int) (w : World) (hs : s.size ≤ 140737488355328) (hm1 : most ≤ 9223372036854775807) :
    Calls Try.prog 21 #[.string s, .int .i64 most] w fun e w' => e = .returned (.tuple #[.int .i64 (cntV s.data.toList most), .int .i64 (cntE s.data.toList most)]) ∧ w = w' := by
  by_cases hm : most < 0
  · go_enter Try.func21, Try.ntmps21
    go_wp2
    go_ret2
    exact ⟨ret2 (cntV_neg hm).symm (cntE_neg hm).symm, rfl⟩
  · go_enter Try.func21, Try.ntmps21
    go_wp2_with (go_at_call 65; refine (kwhole s most _ hs (by omega) hm1).mono ?_; rintro e w' ⟨rfl, rfl⟩)
    go_ret2
    exact ⟨rfl, rfl⟩
end Go.Proofs.Ytglihjdbbpohlaa.W
