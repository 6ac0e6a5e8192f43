/- Contracts of the small functions of layer 3 (dur). -/
import Derived.Test.YtglihjdbbpohlaaDig4
import Derived.Test.YtglihjdbbpohlaaPlU
namespace Go.Proofs.Ytglihjdbbpohlaa.W
open Go.RowKit Go.Proofs.Ytglihjdbbpohlaa.Pl

theorem ret3i {a b c d x y : Int} (h1 : a = b) (h2 : c = d) (h3 : x = y) : Ending.returned (.tuple #[.int .i64 a, .int .i64 c, .int .i64 x]) = .returned (.tuple #[.int .i64 b, .int .i64 d, .int .i64 y]) := by rw [h1, h2, h3]
theorem isByte {c d : UInt8} (h : c = d) (n : Int) (hn : (d.toNat : Int) = n) : ((c.toNat : Int) == n) = true := beqT (by rw [h, hn])
theorem noByte {c d : UInt8} (h : c ≠ d) (n : Int) (hn : (d.toNat : Int) = n) : ((c.toNat : Int) == n) = false := beqF (by rw [← hn]; intro e; exact h (UInt8.toNat_inj.1 (by omega)))

theorem kUnitF (s : ByteArray) (w : World) (hs : s.size ≤ 140737488355328) (h : uD s.data.toList = none) :
    Calls Try.prog 72 #[.string s] w fun e w' => e = .returned (.tuple #[.int .i64 0, .int .i64 0, .int .i64 0]) ∧ w = w' := by
  by_cases h0 : s.size = 0
  · obtain rfl := empty_of_size s h0
    clear h0 h
    go_enter Try.func72, Try.ntmps72
    go_wp2
    go_ret3
    exact ⟨rfl, rfl⟩
  · have hp : 0 < s.size := by omega
    obtain ⟨h1, h2, h3⟩ := uD_none h
    rw [headD_pos s hp] at h1 h2 h3
    have e0 : s.toList.isEmpty = false := toList_isEmpty s hp
    have e1 : ((s[0].toNat : Int) == 104) = false := noByte h1 104 rfl
    have e2 : ((s[0].toNat : Int) == 109) = false := noByte h2 109 rfl
    have e3 : ((s[0].toNat : Int) == 115) = false := noByte h3 115 rfl
    clear h h0 h1 h2 h3
    go_enter Try.func72, Try.ntmps72
    go_wp2
    go_ret3
    exact ⟨rfl, rfl⟩

theorem tail_headD (s : ByteArray) (h : 1 < s.size) : s.data.toList.tail.headD 0 = s[1] := by
  obtain ⟨⟨l⟩⟩ := s
  match l, h with
  | a :: b :: t, _ => rfl
theorem headD_size (s : ByteArray) (c : UInt8) (hc : c ≠ 0) (h : s.data.toList.headD 0 = c) : 0 < s.size := by
  rw [← len_eq]
  cases hl : s.data.toList with
  | nil => rw [hl] at h; exact absurd h.symm hc
  | cons a t => simp

theorem kUnitT (s : ByteArray) (w : World) (hs : s.size ≤ 140737488355328) (p lg sz : Nat) (h : uD s.data.toList = some (p, lg, sz)) :
    Calls Try.prog 72 #[.string s] w fun e w' => e = .returned (.tuple #[.int .i64 p, .int .i64 lg, .int .i64 sz]) ∧ w = w' := by
  obtain ⟨hle, hx⟩ := uD_some h
  rw [len_eq] at hle
  clear h
  rcases hx with ⟨rfl, rfl, rfl, h1⟩ | ⟨rfl, rfl, rfl, h1, h2⟩ | ⟨rfl, rfl, rfl, h1, h2⟩ | ⟨rfl, rfl, rfl, h1⟩
  · have hp := headD_size s _ (by decide) h1
    have e0 : s.toList.isEmpty = false := toList_isEmpty s hp
    rw [headD_pos s hp] at h1
    have e1 : ((s[0].toNat : Int) == 104) = true := isByte h1 104 rfl
    clear h1
    go_enter Try.func72, Try.ntmps72
    go_wp2
    go_ret3
    exact ⟨rfl, rfl⟩
  · have hp := headD_size s _ (by decide) h1
    have e0 : s.toList.isEmpty = false := toList_isEmpty s hp
    rw [headD_pos s hp] at h1
    rw [tail_headD s (by omega)] at h2
    have e1 : ((s[0].toNat : Int) == 104) = false := noByte (d := 104) (by rw [h1]; decide) 104 rfl
    have e2 : ((s[0].toNat : Int) == 109) = true := isByte h1 109 rfl
    have e3 : ((s[1].toNat : Int) != 115) = false := bneF' (by rw [h2]; rfl)
    clear h1 h2
    go_enter Try.func72, Try.ntmps72
    go_wp2
    go_ret3
    exact ⟨rfl, rfl⟩
  · have hp := headD_size s _ (by decide) h1
    have e0 : s.toList.isEmpty = false := toList_isEmpty s hp
    rw [headD_pos s hp] at h1
    have e1 : ((s[0].toNat : Int) == 104) = false := noByte (d := 104) (by rw [h1]; decide) 104 rfl
    have e2 : ((s[0].toNat : Int) == 109) = true := isByte h1 109 rfl
    clear h1
    by_cases h2s : 1 < s.size
    · rw [tail_headD s h2s] at h2
      have e3 : ((s[1].toNat : Int) != 115) = true := bneT' (fun e => h2 (UInt8.toNat_inj.1 (by have : (115 : UInt8).toNat = 115 := rfl; omega)))
      clear h2
      go_enter Try.func72, Try.ntmps72
      go_wp2
      go_ret3
      exact ⟨rfl, rfl⟩
    · clear h2
      go_enter Try.func72, Try.ntmps72
      go_wp2
      go_ret3
      exact ⟨rfl, rfl⟩
  · have hp := headD_size s _ (by decide) h1
    have e0 : s.toList.isEmpty = false := toList_isEmpty s hp
    rw [headD_pos s hp] at h1
    have e1 : ((s[0].toNat : Int) == 104) = false := noByte (d := 104) (by rw [h1]; decide) 104 rfl
    have e2 : ((s[0].toNat : Int) == 109) = false := noByte (d := 109) (by rw [h1]; decide) 109 rfl
    have e3 : ((s[0].toNat : Int) == 115) = true := isByte h1 115 rfl
    clear h1
    go_enter Try.func72, Try.ntmps72
    go_wp2
    go_ret3
    exact ⟨rfl, rfl⟩

theorem lead_at (s : ByteArray) (k : Nat) (hk : k ≤ s.size) (hd : allDig (s.data.toList.take k) = true) (h2 : k = s.size ∨ ∃ h : k < s.size, isDig s[k] = false) : lead s.data.toList = k := by
  refine lead_eq (by rw [len_eq]; exact hk) hd fun h => ?_
  rw [len_eq] at h
  rcases h2 with rfl | ⟨h', h2⟩
  · omega
  · exact h2

theorem kFigures (s : ByteArray) (w : World) (hs : s.size ≤ 140737488355328) :
    Calls Try.prog 71 #[.string s] w fun e w' => e = .returned (.int .i64 (lead s.data.toList)) ∧ w = w' := by
  go_enter Try.func71, Try.ntmps71
  go_wp2_with fail
  go_loop [3] (fun i => ∃ k : Nat, k ≤ s.size ∧ Hid (allDig (s.data.toList.take k) = true) ∧ i = .int .i64 k) (fun i => s.size - (intOf i).toNat)
  case atStart => exact ⟨0, Nat.zero_le _, Lib.hid rfl, rfl⟩
  case round =>
    obtain ⟨k, hk, hd, rfl⟩ := hrel
    by_cases hc : ∃ h : k < s.size, isDig s[k] = true
    · obtain ⟨hlt, hc⟩ := hc
      have HA : Hid (allDig (s.data.toList.take (k + 1)) = true) := Lib.hid (by rw [allDig_take s k hlt, hd.out, hc]; rfl)
      have hc' := (isDig_iff _).1 hc
      clear hc
      go_wp2_with fail
      go_round
      case rel => exact ⟨k + 1, by omega, HA, by go_num⟩
      case measure => simp [intOf]; omega
    · have hend : k = s.size ∨ ∃ h : k < s.size, isDig s[k] = false := by
        by_cases hlt : k < s.size
        · exact .inr ⟨hlt, eq_false_of_ne_true fun h => hc ⟨hlt, h⟩⟩
        · exact .inl (by omega)
      have HK := Lib.hid (lead_at s k hk hd.out hend)
      have hcut : (¬ k < s.size) ∨ (∃ h : k < s.size, s[k].toNat < 48 ∨ 57 < s[k].toNat) := by
        rcases hend with h | ⟨h, h2⟩
        · exact .inl (by omega)
        · exact .inr ⟨h, (isDig_false _).1 h2⟩
      clear hc hend
      rcases hcut with hcut | ⟨hlt, hcut | hcut⟩
      all_goals
        go_wp2_with fail
        go_ret
        exact ⟨ret_int (by rw [HK.out]), rfl⟩
end Go.Proofs.Ytglihjdbbpohlaa.W
