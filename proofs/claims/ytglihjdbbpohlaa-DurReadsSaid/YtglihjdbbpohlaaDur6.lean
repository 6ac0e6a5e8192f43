/- Contract of the reference's group. -/
import Derived.Test.YtglihjdbbpohlaaDur1
import Derived.Test.YtglihjdbbpohlaaSiz3
namespace Go.Proofs.Ytglihjdbbpohlaa.W
open Go.RowKit Go.Proofs.Ytglihjdbbpohlaa.Pl

theorem results_tmp4 {fn : Func} {t u v x : Tmp} (h : fn.results = #[.tmp t, .tmp u, .tmp v, .tmp x]) (tmps : Array Go.Value) (P : Program) (w : World) :
    (results fn tmps).run P w = .ok (.tuple #[tmps.getD t undef, tmps.getD u undef, tmps.getD v undef, tmps.getD x undef]) w := by simp [results, h]
theorem ret4 {a b c d : ByteArray} {x y : Int} {p q : Bool} (h1 : a = b) (h2 : x = y) (h3 : c = d) (h4 : p = q) :
    Ending.returned (.tuple #[.string a, .int .i64 x, .string c, .bool p]) = .returned (.tuple #[.string b, .int .i64 y, .string d, .bool q]) := by rw [h1, h2, h3, h4]
theorem quiet_left2 {P : Program} {f : FuncId} {args : Array Go.Value} {w : World} {a n : Nat} {v : Go.Value}
    (h : Calls P f args (w.drewN (a + n)) fun e w' => e = .returned v ∧ w.drewN (a + n) = w') : Calls P f args (w.drewN (a + n)) fun e w'' => e = .returned v ∧ ∃ m, w'' = w.drewN (a + m) :=
  h.mono fun _ _ ⟨he, hm⟩ => ⟨he, n, hm.symm⟩
theorem drew2 (w : World) (a b : Nat) : (w.drewN a).drewN b = w.drewN (a + b) := by simp
theorem ext_nil (r : ByteArray) (h : r.size ≤ 1) : ByteArray.empty = r.extract 1 r.size := (empty_of_size _ (by rw [ByteArray.size_extract]; omega)).symm
/-- the rest of a text behind its figures -/
def rst (s : ByteArray) : ByteArray := s.extract (lead s.data.toList) s.size
def fgs (s : ByteArray) : ByteArray := s.extract 0 (lead s.data.toList)

set_option maxRecDepth 100000 in
set_option maxHeartbeats 4000000 in
theorem kGroupF (s : ByteArray) (w : World) (hs : s.size ≤ 140737488355328) (h : uD (rst s).data.toList = none) :
    Calls Try.prog 73 #[.string s] w fun e w' => e = .returned (.tuple #[.string ⟨#[]⟩, .int .i64 0, .string ⟨#[]⟩, .bool false]) ∧ ∃ n, w' = w.drewN n := by
  unfold rst at h
  go_enter Try.func73, Try.ntmps73
  go_wp2_with fail
  go_loop [6] (fun i => ∃ k : Nat, k ≤ s.size ∧ Hid (allDig (s.data.toList.take k) = true) ∧ i = .int .i64 k) (fun i => s.size - (intOf i).toNat)
  case atStart => exact ⟨0, Nat.zero_le _, Lib.hid rfl, rfl⟩
  case round =>
    obtain ⟨k, hk, hd, rfl⟩ := hrel
    by_cases hc : ∃ h : k < s.size, isDig s[k] = true
    · obtain ⟨hlt, hc⟩ := hc
      have HA : Hid (allDig (s.data.toList.take (k + 1)) = true) := Lib.hid (by rw [allDig_take s k hlt, hd.out, hc]; rfl)
      have hc' := (isDig_iff _).1 hc
      clear hc
      go_wp2_with fail
      go_round
      case rel => exact ⟨k + 1, by omega, HA, by go_num⟩
      case measure => simp [intOf]; omega
    · have hend : k = s.size ∨ ∃ h : k < s.size, isDig s[k] = false := by
        by_cases hlt : k < s.size
        · exact .inr ⟨hlt, eq_false_of_ne_true fun h => hc ⟨hlt, h⟩⟩
        · exact .inl (by omega)
      have HK := Lib.hid (lead_at s k hk hd.out hend)
      have hcut : (¬ k < s.size) ∨ (∃ h : k < s.size, s[k].toNat < 48 ∨ 57 < s[k].toNat) := by
        rcases hend with h | ⟨h, h2⟩
        · exact .inl (by omega)
        · exact .inr ⟨h, (isDig_false _).1 h2⟩
      have HU : Hid (uD (s.extract k s.size).data.toList = none) := Lib.hid (by rw [← HK.out]; exact h)
      have HF : Hid (fgs s = s.extract 0 k) := Lib.hid (by unfold fgs; rw [HK.out])
      have HR : Hid (rst s = s.extract k s.size) := Lib.hid (by unfold rst; rw [HK.out])
      have hsz1 := ext_size s 0 k hs
      have hsz2 := ext_size s k s.size hs
      clear hc hend hd h
      rcases hcut with hcut | ⟨hlt, hcut | hcut⟩
      all_goals
        go_wp2_with fail
        go_quiet (fail)
        clear hcut
        generalize s.extract k s.size = r at *
        generalize s.extract 0 k = f at *
        by_cases h0 : r.size = 0
        · go_wp2
          refine bodyPost_ret (results_tmp4 rfl _ _ _) rfl ?_
          exact ⟨rfl, _, rfl⟩
        · have hp : 0 < r.size := by omega
          obtain ⟨h1, h2, h3⟩ := uD_none HU.out
          rw [headD_pos r hp] at h1 h2 h3
          have e1 : ((r[0].toNat : Int) == 104) = false := noByte h1 104 rfl
          have e2 : ((r[0].toNat : Int) == 109) = false := noByte h2 109 rfl
          have e3 : ((r[0].toNat : Int) == 115) = false := noByte h3 115 rfl
          clear h1 h2 h3
          rcases (show r.size = 1 ∨ 2 ≤ r.size by omega) with hz | hz
          all_goals
            go_wp2
            refine bodyPost_ret (results_tmp4 rfl _ _ _) rfl ?_
            exact ⟨rfl, _, rfl⟩

set_option maxRecDepth 100000 in
set_option maxHeartbeats 8000000 in
theorem kGroupT (s : ByteArray) (w : World) (hs : s.size ≤ 140737488355328) (p lg sz : Nat) (h : uD (rst s).data.toList = some (p, lg, sz)) :
    Calls Try.prog 73 #[.string s] w fun e w' => e = .returned (.tuple #[.string (fgs s), .int .i64 ((p : Int) - 1), .string ((rst s).extract sz (rst s).size), .bool (wholeB (fgs s).data.toList)]) ∧ ∃ n, w' = w.drewN n := by
  unfold rst at h
  go_enter Try.func73, Try.ntmps73
  go_wp2_with fail
  go_loop [6] (fun i => ∃ k : Nat, k ≤ s.size ∧ Hid (allDig (s.data.toList.take k) = true) ∧ i = .int .i64 k) (fun i => s.size - (intOf i).toNat)
  case atStart => exact ⟨0, Nat.zero_le _, Lib.hid rfl, rfl⟩
  case round =>
    obtain ⟨k, hk, hd, rfl⟩ := hrel
    by_cases hc : ∃ h : k < s.size, isDig s[k] = true
    · obtain ⟨hlt, hc⟩ := hc
      have HA : Hid (allDig (s.data.toList.take (k + 1)) = true) := Lib.hid (by rw [allDig_take s k hlt, hd.out, hc]; rfl)
      have hc' := (isDig_iff _).1 hc
      clear hc
      go_wp2_with fail
      go_round
      case rel => exact ⟨k + 1, by omega, HA, by go_num⟩
      case measure => simp [intOf]; omega
    · have hend : k = s.size ∨ ∃ h : k < s.size, isDig s[k] = false := by
        by_cases hlt : k < s.size
        · exact .inr ⟨hlt, eq_false_of_ne_true fun h => hc ⟨hlt, h⟩⟩
        · exact .inl (by omega)
      have HK := Lib.hid (lead_at s k hk hd.out hend)
      have hcut : (¬ k < s.size) ∨ (∃ h : k < s.size, s[k].toNat < 48 ∨ 57 < s[k].toNat) := by
        rcases hend with h | ⟨h, h2⟩
        · exact .inl (by omega)
        · exact .inr ⟨h, (isDig_false _).1 h2⟩
      have HU : Hid (uD (s.extract k s.size).data.toList = some (p, lg, sz)) := Lib.hid (by rw [← HK.out]; exact h)
      have HF : Hid (fgs s = s.extract 0 k) := Lib.hid (by unfold fgs; rw [HK.out])
      have HR : Hid (rst s = s.extract k s.size) := Lib.hid (by unfold rst; rw [HK.out])
      have hsz1 := ext_size s 0 k hs
      have hsz2 := ext_size s k s.size hs
      clear hc hend hd h
      rcases hcut with hcut | ⟨hlt, hcut | hcut⟩
      all_goals
        go_wp2_with fail
        go_quiet (fail)
        clear hcut
        generalize s.extract k s.size = r at *
        generalize s.extract 0 k = f at *
        obtain ⟨hle, hx⟩ := uD_some HU.out
        rw [len_eq] at hle
        rcases hx with ⟨rfl, rfl, rfl, h1⟩ | ⟨rfl, rfl, rfl, h1, h2⟩ | ⟨rfl, rfl, rfl, h1, h2⟩ | ⟨rfl, rfl, rfl, h1⟩
        · have hp := headD_size r _ (by decide) h1
          rw [headD_pos r hp] at h1
          have e1 : ((r[0].toNat : Int) == 104) = true := isByte h1 104 rfl
          have e2 : ((r[0].toNat : Int) == 109) = false := noByte (d := 109) (by rw [h1]; decide) 109 rfl
          clear h1
          rcases (show r.size = 1 ∨ 2 ≤ r.size by omega) with hz | hz
          all_goals
            go_wp2
            go_quiet ((go_at_call 62; exact quiet_left2 (kWhole _ _ hsz1)))
            go_wp2
            refine bodyPost_ret (results_tmp4 rfl _ _ _) rfl ?_
            exact ⟨ret4 HF.out.symm rfl (by rw [HR.out] <;> (first | done | exact ext_nil _ (by omega))) (by rw [HF.out]), _, drew2 _ _ _⟩
        · have hp := headD_size r _ (by decide) h1
          rw [headD_pos r hp] at h1
          rw [tail_headD r (by omega)] at h2
          have e1 : ((r[0].toNat : Int) == 109) = true := isByte h1 109 rfl
          have e2 : ((r[1].toNat : Int) == 115) = true := isByte h2 115 rfl
          clear h1 h2
          · go_wp2
            go_quiet ((go_at_call 62; exact quiet_left2 (kWhole _ _ hsz1)))
            go_wp2
            refine bodyPost_ret (results_tmp4 rfl _ _ _) rfl ?_
            exact ⟨ret4 HF.out.symm rfl (by rw [HR.out] <;> (first | done | exact ext_nil _ (by omega))) (by rw [HF.out]), _, drew2 _ _ _⟩
        · have hp := headD_size r _ (by decide) h1
          rw [headD_pos r hp] at h1
          have e1 : ((r[0].toNat : Int) == 104) = false := noByte (d := 104) (by rw [h1]; decide) 104 rfl
          have e2 : ((r[0].toNat : Int) == 109) = true := isByte h1 109 rfl
          clear h1
          by_cases hz : 1 < r.size
          · rw [tail_headD r hz] at h2
            have e3 : ((r[1].toNat : Int) == 115) = false := noByte h2 115 rfl
            clear h2
            go_wp2
            go_quiet ((go_at_call 62; exact quiet_left2 (kWhole _ _ hsz1)))
            go_wp2
            refine bodyPost_ret (results_tmp4 rfl _ _ _) rfl ?_
            exact ⟨ret4 HF.out.symm rfl (by rw [HR.out] <;> (first | done | exact ext_nil _ (by omega))) (by rw [HF.out]), _, drew2 _ _ _⟩
          · clear h2
            go_wp2
            go_quiet ((go_at_call 62; exact quiet_left2 (kWhole _ _ hsz1)))
            go_wp2
            refine bodyPost_ret (results_tmp4 rfl _ _ _) rfl ?_
            exact ⟨ret4 HF.out.symm rfl (by rw [HR.out] <;> (first | done | exact ext_nil _ (by omega))) (by rw [HF.out]), _, drew2 _ _ _⟩
        · have hp := headD_size r _ (by decide) h1
          rw [headD_pos r hp] at h1
          have e1 : ((r[0].toNat : Int) == 104) = false := noByte (d := 104) (by rw [h1]; decide) 104 rfl
          have e2 : ((r[0].toNat : Int) == 109) = false := noByte (d := 109) (by rw [h1]; decide) 109 rfl
          have e3 : ((r[0].toNat : Int) == 115) = true := isByte h1 115 rfl
          clear h1
          rcases (show r.size = 1 ∨ 2 ≤ r.size by omega) with hz | hz
          all_goals
            go_wp2
            go_quiet ((go_at_call 62; exact quiet_left2 (kWhole _ _ hsz1)))
            go_wp2
            refine bodyPost_ret (results_tmp4 rfl _ _ _) rfl ?_
            exact ⟨ret4 HF.out.symm rfl (by rw [HR.out] <;> (first | done | exact ext_nil _ (by omega))) (by rw [HF.out]), _, drew2 _ _ _⟩

end Go.Proofs.Ytglihjdbbpohlaa.W
