/- Contracts of the small readers of digits (Whole, Value, whole, Count). -/
import Derived.Test.YtglihjdbbpohlaaChecked
import Derived.Test.YtglihjdbbpohlaaPl
import Derived.WalkKit
import Derived.WalkSpells
import Derived.WalkLawsBesides
import Derived.Lib.Hide
import Derived.Deep.QuietTactic
import Derived.BigQuiet
namespace Go.Proofs.Ytglihjdbbpohlaa.W
open Go.RowKit Go.Proofs.Ytglihjdbbpohlaa.Pl

theorem ret_int {k : IntKind} {a b : Int} (h : a = b) : Ending.returned (.int k a) = .returned (.int k b) := by rw [h]
theorem ret_bool {a b : Bool} (h : a = b) : Ending.returned (.bool a) = .returned (.bool b) := by rw [h]
theorem beqF {a b : Int} (h : a ≠ b) : (a == b) = false := beq_eq_false_iff_ne.2 h
theorem beqT {a b : Int} (h : a = b) : (a == b) = true := beq_iff_eq.2 h
theorem decF {p : Prop} [Decidable p] (h : ¬ p) : decide p = false := decide_eq_false h
theorem decT {p : Prop} [Decidable p] (h : p) : decide p = true := decide_eq_true h

set_option maxHeartbeats 400000 in
theorem kWhole_loop (s : ByteArray) (w : World) (hs : s.size ≤ 140737488355328) (h1 : 0 < s.size) (h0 : s.size = 1 ∨ s[0].toNat ≠ 48) :
    Calls Try.prog 62 #[.string s] w fun e w' => e = .returned (.bool (wholeB s.data.toList)) ∧ w = w' := by
  have HW := Lib.hid (wholeB_rest s h1 h0)
  have e0 : ((s.size : Int) == 0) = false := beqF (by omega)
  rcases h0 with h0 | h0
  all_goals
    first | (have e1 : decide ((1 : Int) < s.size) = false := by simp; omega) | (have e2 : ((s[0].toNat : Int) == 48) = false := beqF (by omega))
    have H0 := Lib.hid h0
    clear h0
    go_enter Try.func62, Try.ntmps62
    go_wp2
    all_goals
      go_loop [3] (fun i => ∃ k : Nat, k ≤ s.size ∧ Hid (allDig (s.data.toList.take k) = true) ∧ i = .int .i64 k) (fun i => s.size - (intOf i).toNat)
      case atStart => exact ⟨0, Nat.zero_le _, Lib.hid rfl, rfl⟩
      case round =>
        obtain ⟨k, hk, hd, rfl⟩ := hrel
        by_cases hlt : k < s.size
        · have HS := Lib.hid (allDig_take s k hlt)
          by_cases hc : isDig s[k] = true
          · have hc' := (isDig_iff _).1 hc
            have HC := Lib.hid hc
            clear hc
            go_wp2
            go_round
            case rel => exact ⟨k + 1, by omega, Lib.hid (by rw [HS.out, hd.out, HC.out]; rfl), by go_num⟩
            case measure => simp [intOf]; omega
          · have hc := eq_false_of_ne_true hc
            have hb := Lib.hid (allDig_bad s k hlt hc)
            have hc' := (isDig_false _).1 hc
            have HC := Lib.hid hc
            clear hc
            rcases hc' with hc' | hc'
            all_goals
              go_wp2
              go_ret
              exact ⟨ret_bool (by rw [HW.out, hb.out]), rfl⟩
        · go_wp2
          go_ret
          exact ⟨ret_bool (by rw [HW.out, ← take_all s k (by omega), hd.out]), rfl⟩

theorem kWhole (s : ByteArray) (w : World) (hs : s.size ≤ 140737488355328) :
    Calls Try.prog 62 #[.string s] w fun e w' => e = .returned (.bool (wholeB s.data.toList)) ∧ w = w' := by
  by_cases h1 : s.size = 0
  · obtain rfl := empty_of_size s h1
    go_enter Try.func62, Try.ntmps62
    go_wp2
    go_ret
    exact ⟨rfl, rfl⟩
  · have h1' : 0 < s.size := by omega
    by_cases h2 : s.size = 1
    · exact kWhole_loop s w hs h1' (.inl h2)
    · by_cases h3 : s[0].toNat = 48
      · have HW := Lib.hid (wholeB_zero s (by omega) h3)
        have e0 : ((s.size : Int) == 0) = false := beqF (by omega)
        have e1 : decide ((1 : Int) < s.size) = true := decT (by omega)
        have e2 : ((s[0].toNat : Int) == 48) = true := beqT (by omega)
        clear h1 h2 h3
        go_enter Try.func62, Try.ntmps62
        go_wp2
        go_ret
        exact ⟨ret_bool HW.out.symm, rfl⟩
      · exact kWhole_loop s w hs h1' (.inr h3)
set_option maxHeartbeats 400000 in
theorem kValue (s : ByteArray) (w : World) (hs : s.size ≤ 140737488355328) (hd : allDig s.data.toList = true) :
    Calls Try.prog 63 #[.string s] w fun e w' => e = .returned (.int .i64 (valS s.data.toList)) ∧ w = w' := by
  have HD := Lib.hid hd
  clear hd
  go_enter Try.func63, Try.ntmps63
  go_wp2
  go_loop [3, 4] (fun n i => ∃ k : Nat, k ≤ s.size ∧ val (s.data.toList.take k) < 72057594037927936 ∧ n = .int .i64 (val (s.data.toList.take k)) ∧ i = .int .i64 k) (fun _ i => s.size - (intOf i).toNat)
  case atStart => exact ⟨0, Nat.zero_le _, by rw [List.take_zero]; decide, rfl, rfl⟩
  case round =>
    obtain ⟨k, hk, hv, rfl, rfl⟩ := hrel
    by_cases hlt : k < s.size
    · have HS := Lib.hid (val_take s k hlt)
      have hg := allDig_get s HD.out k hlt
      have hle := val_take_all_le s (k + 1)
      rw [HS.out] at hle
      generalize hn : val (s.data.toList.take k) = n at *
      clear hn
      by_cases hb : n * 10 + (s[k].toNat - 48) < 72057594037927936
      · go_wp2
        go_round
        case rel => exact ⟨k + 1, by omega, by rw [HS.out]; exact hb, by rw [HS.out]; congr 1; omega, by go_num⟩
        case measure => simp [intOf]; omega
      · go_wp2
        go_ret
        exact ⟨ret_int (valS_big (by omega)).symm, rfl⟩
    · have HT := Lib.hid (take_all s k (by omega))
      go_wp2
      go_ret
      exact ⟨ret_int (by rw [HT.out] at hv ⊢; exact (valS_small hv).symm), rfl⟩
end Go.Proofs.Ytglihjdbbpohlaa.W
