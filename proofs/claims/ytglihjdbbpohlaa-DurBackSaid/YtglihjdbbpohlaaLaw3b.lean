/- The walk of DurBack. -/
import Derived.Test.YtglihjdbbpohlaaLaw3
import Derived.Test.YtglihjdbbpohlaaPlW
namespace Go.Proofs.Ytglihjdbbpohlaa.W
open Go.RowKit Go.Proofs.Ytglihjdbbpohlaa.Pl

theorem kParseT (n : Int) (w : World) (v e : Int) (hv : durV (durT n) = v) (he : durE (durT n) = e) :
    Calls Try.prog 50 #[.string (bs (durT n))] w fun x w' => x = .returned (.tuple #[.int .i64 v, .int .i64 e]) ∧ w = w' := by
  have h := kDurParse (bs (durT n)) w (by rw [bs_size]; have := durT_len n; omega)
  have hb : (bs (durT n)).data.toList = durT n := rfl
  rw [hb, hv, he] at h
  exact h
theorem kParseS (s : ByteArray) (w : World) (hs : s.size ≤ 140737488355328) (v e : Int) (hv : durV s.data.toList = v) (he : durE s.data.toList = e) :
    Calls Try.prog 50 #[.string s] w fun x w' => x = .returned (.tuple #[.int .i64 v, .int .i64 e]) ∧ w = w' := by
  have h := kDurParse s w hs
  rw [hv, he] at h
  exact h

set_option maxRecDepth 100000 in
set_option maxHeartbeats 8000000 in
theorem kDurBack (n m : Int) (s : ByteArray) (w : World) (hs0 : s.size ≤ maxLen) :
    Calls Try.prog 13 #[.int .i64 n, .int .i64 m, .string s] w fun e w' => e = .returned (.bool true) ∧ Below w.heap.size w w' := by
  unfold maxLen at hs0
  have hb0 := Below.refl w.heap.size w
  have hB0 : w.heap.size ≤ w.heap.size := Nat.le_refl _
  by_cases hlen : 2000 < s.size
  · go_enter Try.func13, Try.ntmps13
    go_wp2_with fail
    refine (rl (by assumption) (by assumption) (kAwake3 _)).mono ?_
    rintro e w6 ⟨rfl, hc6, hB6⟩
    go_wp2_with fail
    go_ret
    exact ⟨rfl, by assumption⟩
  have hs : s.size ≤ 140737488355328 := by omega
  clear hs0
  have Tn := Lib.hid (fun w1 => kDurText n w1)
  have Tm := Lib.hid (fun w1 => kDurText m w1)
  have hk : (durE s.data.toList ≠ 0 ∧ durV s.data.toList = 0) ∨ ∃ k, 0 ≤ k ∧ k ≤ 1099511627776 ∧ durE s.data.toList = 0 ∧ durV s.data.toList = k := by
    by_cases h : durE s.data.toList = 0
    · exact .inr ⟨_, (durV_bd _).1, (durV_bd _).2, h, rfl⟩
    · exact .inl ⟨h, durV_err h⟩
  rcases (show n < 0 ∨ 1099511627776 < n ∨ (0 ≤ n ∧ n ≤ 1099511627776) by omega) with hn | hn | ⟨hn0, hn1⟩
  · have Pn := Lib.hid (fun w1 => kParseT n w1 _ 3 rfl (dur_out (.inl hn)))
    generalize durV (durT n) = x at *
    generalize bs (durT n) = t at *
    clear Tm
    rcases hk with ⟨hE, hV⟩ | ⟨k, hk0, hk1, hE, hV⟩
    · have z1 : (durE s.data.toList != 0) = true := bneT' hE
      have Ps := Lib.hid (fun w1 => kParseS s w1 hs 0 _ hV rfl)
      generalize durE s.data.toList = f at *
      clear hE hV
      go_enter Try.func13, Try.ntmps13
      go_wp2_with fail
      refine (rl (by assumption) (by assumption) (Tn.out _)).mono ?_
      rintro e w1 ⟨rfl, hc1, hB1⟩
      go_wp2_with fail
      refine (Pn.out _).mono ?_
      rintro e w2 ⟨rfl, rfl⟩
      go_wp2_with fail
      refine (Ps.out _).mono ?_
      rintro e w5 ⟨rfl, rfl⟩
      go_wp2_with fail
      refine (rl (by assumption) (by assumption) (kAwake3 _)).mono ?_
      rintro e w6 ⟨rfl, hc6, hB6⟩
      go_wp2_with fail
      go_ret
      exact ⟨rfl, by assumption⟩
    · have Ps := Lib.hid (fun w1 => kParseS s w1 hs k 0 hV hE)
      have Tk := Lib.hid (fun w1 => kDurText k w1)
      have Pk := Lib.hid (fun w1 => kParseT k w1 k 0 (dur_back hk0 hk1).2 (dur_back hk0 hk1).1)
      clear hE hV
      generalize bs (durT k) = v at *
      go_enter Try.func13, Try.ntmps13
      go_wp2_with fail
      refine (rl (by assumption) (by assumption) (Tn.out _)).mono ?_
      rintro e w1 ⟨rfl, hc1, hB1⟩
      go_wp2_with fail
      refine (Pn.out _).mono ?_
      rintro e w2 ⟨rfl, rfl⟩
      go_wp2_with fail
      refine (Ps.out _).mono ?_
      rintro e w5 ⟨rfl, rfl⟩
      go_wp2_with fail
      refine (rl (by assumption) (by assumption) (Tk.out _)).mono ?_
      rintro e w7 ⟨rfl, hc7, hB7⟩
      go_wp2_with fail
      refine (Pk.out _).mono ?_
      rintro e w8 ⟨rfl, rfl⟩
      go_wp2_with fail
      refine (rl (by assumption) (by assumption) (kAwake3 _)).mono ?_
      rintro e w6 ⟨rfl, hc6, hB6⟩
      go_wp2_with fail
      go_ret
      exact ⟨rfl, by assumption⟩
  · have Pn := Lib.hid (fun w1 => kParseT n w1 _ 3 rfl (dur_out (.inr hn)))
    generalize durV (durT n) = x at *
    generalize bs (durT n) = t at *
    clear Tm
    rcases hk with ⟨hE, hV⟩ | ⟨k, hk0, hk1, hE, hV⟩
    · have z1 : (durE s.data.toList != 0) = true := bneT' hE
      have Ps := Lib.hid (fun w1 => kParseS s w1 hs 0 _ hV rfl)
      generalize durE s.data.toList = f at *
      clear hE hV
      go_enter Try.func13, Try.ntmps13
      go_wp2_with fail
      refine (rl (by assumption) (by assumption) (Tn.out _)).mono ?_
      rintro e w1 ⟨rfl, hc1, hB1⟩
      go_wp2_with fail
      refine (Pn.out _).mono ?_
      rintro e w2 ⟨rfl, rfl⟩
      go_wp2_with fail
      refine (Ps.out _).mono ?_
      rintro e w5 ⟨rfl, rfl⟩
      go_wp2_with fail
      refine (rl (by assumption) (by assumption) (kAwake3 _)).mono ?_
      rintro e w6 ⟨rfl, hc6, hB6⟩
      go_wp2_with fail
      go_ret
      exact ⟨rfl, by assumption⟩
    · have Ps := Lib.hid (fun w1 => kParseS s w1 hs k 0 hV hE)
      have Tk := Lib.hid (fun w1 => kDurText k w1)
      have Pk := Lib.hid (fun w1 => kParseT k w1 k 0 (dur_back hk0 hk1).2 (dur_back hk0 hk1).1)
      clear hE hV
      generalize bs (durT k) = v at *
      go_enter Try.func13, Try.ntmps13
      go_wp2_with fail
      refine (rl (by assumption) (by assumption) (Tn.out _)).mono ?_
      rintro e w1 ⟨rfl, hc1, hB1⟩
      go_wp2_with fail
      refine (Pn.out _).mono ?_
      rintro e w2 ⟨rfl, rfl⟩
      go_wp2_with fail
      refine (Ps.out _).mono ?_
      rintro e w5 ⟨rfl, rfl⟩
      go_wp2_with fail
      refine (rl (by assumption) (by assumption) (Tk.out _)).mono ?_
      rintro e w7 ⟨rfl, hc7, hB7⟩
      go_wp2_with fail
      refine (Pk.out _).mono ?_
      rintro e w8 ⟨rfl, rfl⟩
      go_wp2_with fail
      refine (rl (by assumption) (by assumption) (kAwake3 _)).mono ?_
      rintro e w6 ⟨rfl, hc6, hB6⟩
      go_wp2_with fail
      go_ret
      exact ⟨rfl, by assumption⟩
  · have Pn := Lib.hid (fun w1 => kParseT n w1 n 0 (dur_back hn0 hn1).2 (dur_back hn0 hn1).1)
    rcases (show m < 0 ∨ 1099511627776 < m ∨ (0 ≤ m ∧ m ≤ 1099511627776) by omega) with hm | hm | ⟨hm0, hm1⟩
    · generalize bs (durT n) = t at *
      clear Tm
      rcases hk with ⟨hE, hV⟩ | ⟨k, hk0, hk1, hE, hV⟩
      · have z1 : (durE s.data.toList != 0) = true := bneT' hE
        have Ps := Lib.hid (fun w1 => kParseS s w1 hs 0 _ hV rfl)
        generalize durE s.data.toList = f at *
        clear hE hV
        go_enter Try.func13, Try.ntmps13
        go_wp2_with fail
        refine (rl (by assumption) (by assumption) (Tn.out _)).mono ?_
        rintro e w1 ⟨rfl, hc1, hB1⟩
        go_wp2_with fail
        refine (Pn.out _).mono ?_
        rintro e w2 ⟨rfl, rfl⟩
        go_wp2_with fail
        refine (Ps.out _).mono ?_
        rintro e w5 ⟨rfl, rfl⟩
        go_wp2_with fail
        refine (rl (by assumption) (by assumption) (kAwake3 _)).mono ?_
        rintro e w6 ⟨rfl, hc6, hB6⟩
        go_wp2_with fail
        go_ret
        exact ⟨rfl, by assumption⟩
      · have Ps := Lib.hid (fun w1 => kParseS s w1 hs k 0 hV hE)
        have Tk := Lib.hid (fun w1 => kDurText k w1)
        have Pk := Lib.hid (fun w1 => kParseT k w1 k 0 (dur_back hk0 hk1).2 (dur_back hk0 hk1).1)
        clear hE hV
        generalize bs (durT k) = v at *
        go_enter Try.func13, Try.ntmps13
        go_wp2_with fail
        refine (rl (by assumption) (by assumption) (Tn.out _)).mono ?_
        rintro e w1 ⟨rfl, hc1, hB1⟩
        go_wp2_with fail
        refine (Pn.out _).mono ?_
        rintro e w2 ⟨rfl, rfl⟩
        go_wp2_with fail
        refine (Ps.out _).mono ?_
        rintro e w5 ⟨rfl, rfl⟩
        go_wp2_with fail
        refine (rl (by assumption) (by assumption) (Tk.out _)).mono ?_
        rintro e w7 ⟨rfl, hc7, hB7⟩
        go_wp2_with fail
        refine (Pk.out _).mono ?_
        rintro e w8 ⟨rfl, rfl⟩
        go_wp2_with fail
        refine (rl (by assumption) (by assumption) (kAwake3 _)).mono ?_
        rintro e w6 ⟨rfl, hc6, hB6⟩
        go_wp2_with fail
        go_ret
        exact ⟨rfl, by assumption⟩
    · generalize bs (durT n) = t at *
      clear Tm
      rcases hk with ⟨hE, hV⟩ | ⟨k, hk0, hk1, hE, hV⟩
      · have z1 : (durE s.data.toList != 0) = true := bneT' hE
        have Ps := Lib.hid (fun w1 => kParseS s w1 hs 0 _ hV rfl)
        generalize durE s.data.toList = f at *
        clear hE hV
        go_enter Try.func13, Try.ntmps13
        go_wp2_with fail
        refine (rl (by assumption) (by assumption) (Tn.out _)).mono ?_
        rintro e w1 ⟨rfl, hc1, hB1⟩
        go_wp2_with fail
        refine (Pn.out _).mono ?_
        rintro e w2 ⟨rfl, rfl⟩
        go_wp2_with fail
        refine (Ps.out _).mono ?_
        rintro e w5 ⟨rfl, rfl⟩
        go_wp2_with fail
        refine (rl (by assumption) (by assumption) (kAwake3 _)).mono ?_
        rintro e w6 ⟨rfl, hc6, hB6⟩
        go_wp2_with fail
        go_ret
        exact ⟨rfl, by assumption⟩
      · have Ps := Lib.hid (fun w1 => kParseS s w1 hs k 0 hV hE)
        have Tk := Lib.hid (fun w1 => kDurText k w1)
        have Pk := Lib.hid (fun w1 => kParseT k w1 k 0 (dur_back hk0 hk1).2 (dur_back hk0 hk1).1)
        clear hE hV
        generalize bs (durT k) = v at *
        go_enter Try.func13, Try.ntmps13
        go_wp2_with fail
        refine (rl (by assumption) (by assumption) (Tn.out _)).mono ?_
        rintro e w1 ⟨rfl, hc1, hB1⟩
        go_wp2_with fail
        refine (Pn.out _).mono ?_
        rintro e w2 ⟨rfl, rfl⟩
        go_wp2_with fail
        refine (Ps.out _).mono ?_
        rintro e w5 ⟨rfl, rfl⟩
        go_wp2_with fail
        refine (rl (by assumption) (by assumption) (Tk.out _)).mono ?_
        rintro e w7 ⟨rfl, hc7, hB7⟩
        go_wp2_with fail
        refine (Pk.out _).mono ?_
        rintro e w8 ⟨rfl, rfl⟩
        go_wp2_with fail
        refine (rl (by assumption) (by assumption) (kAwake3 _)).mono ?_
        rintro e w6 ⟨rfl, hc6, hB6⟩
        go_wp2_with fail
        go_ret
        exact ⟨rfl, by assumption⟩
    · by_cases hnm : n = m
      · subst hnm
        clear Tm hm0 hm1
        have q1 : ((bs (durT n)).toList == (bs (durT n)).toList) = true := beq_self_eq_true _
        have q2 : (n == n) = true := beq_self_eq_true _
        generalize bs (durT n) = t at *
        rcases hk with ⟨hE, hV⟩ | ⟨k, hk0, hk1, hE, hV⟩
        · have z1 : (durE s.data.toList != 0) = true := bneT' hE
          have Ps := Lib.hid (fun w1 => kParseS s w1 hs 0 _ hV rfl)
          generalize durE s.data.toList = f at *
          clear hE hV
          go_enter Try.func13, Try.ntmps13
          go_wp2_with fail
          refine (rl (by assumption) (by assumption) (Tn.out _)).mono ?_
          rintro e w1 ⟨rfl, hc1, hB1⟩
          go_wp2_with fail
          refine (Pn.out _).mono ?_
          rintro e w2 ⟨rfl, rfl⟩
          go_wp2_with fail
          refine (rl (by assumption) (by assumption) (Tn.out _)).mono ?_
          rintro e w3 ⟨rfl, hc3, hB3⟩
          go_wp2_with fail
          refine (rl (by assumption) (by assumption) (Tn.out _)).mono ?_
          rintro e w4 ⟨rfl, hc4, hB4⟩
          go_wp2_with fail
          refine (Ps.out _).mono ?_
          rintro e w5 ⟨rfl, rfl⟩
          go_wp2_with fail
          refine (rl (by assumption) (by assumption) (kAwake3 _)).mono ?_
          rintro e w6 ⟨rfl, hc6, hB6⟩
          go_wp2_with fail
          go_ret
          exact ⟨rfl, by assumption⟩
        · have Ps := Lib.hid (fun w1 => kParseS s w1 hs k 0 hV hE)
          have Tk := Lib.hid (fun w1 => kDurText k w1)
          have Pk := Lib.hid (fun w1 => kParseT k w1 k 0 (dur_back hk0 hk1).2 (dur_back hk0 hk1).1)
          clear hE hV
          generalize bs (durT k) = v at *
          go_enter Try.func13, Try.ntmps13
          go_wp2_with fail
          refine (rl (by assumption) (by assumption) (Tn.out _)).mono ?_
          rintro e w1 ⟨rfl, hc1, hB1⟩
          go_wp2_with fail
          refine (Pn.out _).mono ?_
          rintro e w2 ⟨rfl, rfl⟩
          go_wp2_with fail
          refine (rl (by assumption) (by assumption) (Tn.out _)).mono ?_
          rintro e w3 ⟨rfl, hc3, hB3⟩
          go_wp2_with fail
          refine (rl (by assumption) (by assumption) (Tn.out _)).mono ?_
          rintro e w4 ⟨rfl, hc4, hB4⟩
          go_wp2_with fail
          refine (Ps.out _).mono ?_
          rintro e w5 ⟨rfl, rfl⟩
          go_wp2_with fail
          refine (rl (by assumption) (by assumption) (Tk.out _)).mono ?_
          rintro e w7 ⟨rfl, hc7, hB7⟩
          go_wp2_with fail
          refine (Pk.out _).mono ?_
          rintro e w8 ⟨rfl, rfl⟩
          go_wp2_with fail
          refine (rl (by assumption) (by assumption) (kAwake3 _)).mono ?_
          rintro e w6 ⟨rfl, hc6, hB6⟩
          go_wp2_with fail
          go_ret
          exact ⟨rfl, by assumption⟩
      · have q1 : ((bs (durT n)).toList == (bs (durT m)).toList) = false := by
          rw [bs_toList, bs_toList]
          exact beq_false_of_ne fun h => hnm (durT_inj hn0 hn1 hm0 hm1 h)
        have q2 : (n == m) = false := beqF hnm
        generalize bs (durT n) = t at *
        generalize bs (durT m) = u at *
        rcases hk with ⟨hE, hV⟩ | ⟨k, hk0, hk1, hE, hV⟩
        · have z1 : (durE s.data.toList != 0) = true := bneT' hE
          have Ps := Lib.hid (fun w1 => kParseS s w1 hs 0 _ hV rfl)
          generalize durE s.data.toList = f at *
          clear hE hV
          go_enter Try.func13, Try.ntmps13
          go_wp2_with fail
          refine (rl (by assumption) (by assumption) (Tn.out _)).mono ?_
          rintro e w1 ⟨rfl, hc1, hB1⟩
          go_wp2_with fail
          refine (Pn.out _).mono ?_
          rintro e w2 ⟨rfl, rfl⟩
          go_wp2_with fail
          refine (rl (by assumption) (by assumption) (Tn.out _)).mono ?_
          rintro e w3 ⟨rfl, hc3, hB3⟩
          go_wp2_with fail
          refine (rl (by assumption) (by assumption) (Tm.out _)).mono ?_
          rintro e w4 ⟨rfl, hc4, hB4⟩
          go_wp2_with fail
          refine (Ps.out _).mono ?_
          rintro e w5 ⟨rfl, rfl⟩
          go_wp2_with fail
          refine (rl (by assumption) (by assumption) (kAwake3 _)).mono ?_
          rintro e w6 ⟨rfl, hc6, hB6⟩
          go_wp2_with fail
          go_ret
          exact ⟨rfl, by assumption⟩
        · have Ps := Lib.hid (fun w1 => kParseS s w1 hs k 0 hV hE)
          have Tk := Lib.hid (fun w1 => kDurText k w1)
          have Pk := Lib.hid (fun w1 => kParseT k w1 k 0 (dur_back hk0 hk1).2 (dur_back hk0 hk1).1)
          clear hE hV
          generalize bs (durT k) = v at *
          go_enter Try.func13, Try.ntmps13
          go_wp2_with fail
          refine (rl (by assumption) (by assumption) (Tn.out _)).mono ?_
          rintro e w1 ⟨rfl, hc1, hB1⟩
          go_wp2_with fail
          refine (Pn.out _).mono ?_
          rintro e w2 ⟨rfl, rfl⟩
          go_wp2_with fail
          refine (rl (by assumption) (by assumption) (Tn.out _)).mono ?_
          rintro e w3 ⟨rfl, hc3, hB3⟩
          go_wp2_with fail
          refine (rl (by assumption) (by assumption) (Tm.out _)).mono ?_
          rintro e w4 ⟨rfl, hc4, hB4⟩
          go_wp2_with fail
          refine (Ps.out _).mono ?_
          rintro e w5 ⟨rfl, rfl⟩
          go_wp2_with fail
          refine (rl (by assumption) (by assumption) (Tk.out _)).mono ?_
          rintro e w7 ⟨rfl, hc7, hB7⟩
          go_wp2_with fail
          refine (Pk.out _).mono ?_
          rintro e w8 ⟨rfl, rfl⟩
          go_wp2_with fail
          refine (rl (by assumption) (by assumption) (kAwake3 _)).mono ?_
          rintro e w6 ⟨rfl, hc6, hB6⟩
          go_wp2_with fail
          go_ret
          exact ⟨rfl, by assumption⟩
end Go.Proofs.Ytglihjdbbpohlaa.W
