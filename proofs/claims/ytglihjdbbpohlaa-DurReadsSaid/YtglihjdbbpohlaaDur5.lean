/- Contract of the program's reader of spans. -/
import Derived.Test.YtglihjdbbpohlaaDur1
import Derived.Lib.IndexBytes
namespace Go.Proofs.Ytglihjdbbpohlaa.W
open Go.RowKit Go.Proofs.Ytglihjdbbpohlaa.Pl

/-- what is known of the sum and the flag -/
def SumAt (T : Nat) (tot ov : Go.Value) : Prop :=
  (ov = .bool false ∧ tot = .int .i64 T ∧ T ≤ 1099511627776) ∨ (ov = .bool true ∧ 1099511627776 < T ∧ ∃ m : Int, tot = .int .i64 m)
/-- where the reader stands -/
def DurAt (l : List UInt8) (k last T : Nat) : Prop :=
  ((k < l.length ∨ last = 0) ∧ last ≤ 4 ∧ ∃ f, 5 - last ≤ f ∧ durO l = durF f (l.drop k) last T) ∨ (k = l.length ∧ 0 < last ∧ durO l = some T)

theorem uD_place {r : List UInt8} {p lg sz : Nat} (h : uD r = some (p, lg, sz)) : 1 ≤ p ∧ p ≤ 4 ∧ 1 ≤ sz ∧ sz ≤ 2 ∧ sz ≤ r.length ∧ (lg = 3600000 ∨ lg = 60000 ∨ lg = 1000 ∨ lg = 1) := by
  obtain ⟨h1, h2⟩ := uD_some h
  rcases h2 with ⟨rfl, rfl, rfl, _⟩ | ⟨rfl, rfl, rfl, _⟩ | ⟨rfl, rfl, rfl, _⟩ | ⟨rfl, rfl, rfl, _⟩ <;> omega
/-- one group more -/
theorem dur_step {l : List UInt8} {at_ last T p lg sz f : Nat} (hl : last ≤ 4) (hf : 5 - last ≤ f) (he : durO l = durF f (l.drop at_) last T)
    (hu : uD ((l.drop at_).drop (lead (l.drop at_))) = some (p, lg, sz)) (hw : wholeB ((l.drop at_).take (lead (l.drop at_))) = true) (hp : last < p)
    (hz : val ((l.drop at_).take (lead (l.drop at_))) ≠ 0 ∨ (last = 0 ∧ at_ + lead (l.drop at_) + sz = l.length)) (hle : at_ + lead (l.drop at_) + sz ≤ l.length) :
    DurAt l (at_ + lead (l.drop at_) + sz) p (T + val ((l.drop at_).take (lead (l.drop at_))) * lg) := by
  obtain ⟨g, rfl⟩ : ∃ g, f = g + 1 := ⟨f - 1, by omega⟩
  have hpl := (uD_place hu).2.1
  by_cases hend : at_ + lead (l.drop at_) + sz = l.length
  · refine .inr ⟨hend, by omega, ?_⟩
    rw [he]
    refine durF_end hu hw hp (by rcases hz with h | h; exact .inl h; exact .inr h.1) ?_
    rw [List.drop_drop, List.drop_eq_nil_iff]; omega
  · refine .inl ⟨.inl (by omega), hpl, g, by omega, ?_⟩
    rw [he, durF_go hu hw hp (by rcases hz with h | h; exact h; exact absurd h.2 hend) (by rw [List.drop_drop, ne_eq, List.drop_eq_nil_iff]; omega)]
    rw [List.drop_drop, Nat.add_assoc]

set_option maxRecDepth 100000 in
set_option maxHeartbeats 16000000 in
theorem kDurParse (s : ByteArray) (w : World) (hs : s.size ≤ 140737488355328) :
    Calls Try.prog 50 #[.string s] w fun e w' => e = .returned (.tuple #[.int .i64 (durV s.data.toList), .int .i64 (durE s.data.toList)]) ∧ w = w' := by
  go_enter Try.func50, Try.ntmps50
  go_wp2_with fail
  go_loop [4, 5, 6, 7] (fun tot la ov i => ∃ k last T : Nat, k ≤ s.size ∧ SumAt T tot ov ∧ Hid (DurAt s.data.toList k last T) ∧ la = .int .i64 last ∧ i = .int .i64 k) (fun _ _ _ i => s.size - (intOf i).toNat)
  case atStart => exact ⟨0, 0, 0, Nat.zero_le _, .inl ⟨rfl, rfl, by omega⟩, Lib.hid (.inl ⟨.inr rfl, by omega, 5, by omega, rfl⟩), rfl, rfl⟩
  case round =>
    obtain ⟨k, last, T, hk, hsum, hat, rfl, rfl⟩ := hrel
    rcases hat.out with ⟨hgo, hl4, f, hf, he⟩ | ⟨hend, hl0, he⟩
    · rw [len_eq] at hgo
      have HE := Lib.hid he
      clear he hat
      have hd1 : (s.extract k s.size).data.toList = s.data.toList.drop k := Lib.extract_to_end _ _
      obtain ⟨q, hq⟩ : ∃ q, lead (s.data.toList.drop k) = q := ⟨_, rfl⟩
      have hql : k + q ≤ s.size := by
        have := lead_le (s.data.toList.drop k)
        rw [hq, List.length_drop, len_eq] at this; omega
      have hd2 : (s.extract k (k + q)).data.toList = (s.data.toList.drop k).take q := by rw [Lib.extract_data]; congr 1; omega
      have hd3 : (s.extract (k + q) s.size).data.toList = (s.data.toList.drop k).drop q := by rw [Lib.extract_to_end, List.drop_drop]
      have z1 : (s.extract k s.size).size ≤ 140737488355328 := by rw [ByteArray.size_extract]; omega
      have z2 : (s.extract k (k + q)).size ≤ 140737488355328 := by rw [ByteArray.size_extract]; omega
      have z3 : (s.extract (k + q) s.size).size ≤ 140737488355328 := by rw [ByteArray.size_extract]; omega
      have K1 : Hid (∀ w1, Calls Try.prog 71 #[.string (s.extract k s.size)] w1 fun e w' => e = .returned (.int .i64 q) ∧ w1 = w') := Lib.hid fun w1 => by
        have := kFigures (s.extract k s.size) w1 z1
        rw [hd1, hq] at this; exact this
      have K2 := Lib.hid (fun w1 => kCount (s.extract k (k + q)) 1099511627776 w1 z2 (by omega))
      rw [hd2] at K2
      have HG : decide ((k : Int) < s.size) = true ∨ (decide ((k : Int) < s.size) = false ∧ ((last : Int) == 0) = true) := by
        by_cases h : k < s.size
        · exact .inl (decT (by omega))
        · exact .inr ⟨decF (by omega), beqT (by omega)⟩
      have HG' : k < s.size ∨ (s.size ≤ k ∧ last = 0) := by omega
      clear HG hgo
      -- the unit
      have hA : (∃ b, wholeB ((s.data.toList.drop k).take q) = b) := ⟨_, rfl⟩
      obtain ⟨b, hb⟩ := hA
      cases b
      · -- no number
        have HR := Lib.hid (dur_none (l := s.data.toList) (by rw [HE.out]; exact durF_nowhole (by rw [hq]; exact hb)))
        rw [cntE_bad (by omega) hb, cntV_bad hb] at K2
        have KU : ∃ a b c : Int, Hid (∀ w1, Calls Try.prog 72 #[.string (s.extract (k + q) s.size)] w1 fun e w' => e = .returned (.tuple #[.int .i64 a, .int .i64 b, .int .i64 c]) ∧ w1 = w') := by
          cases hu : uD (s.extract (k + q) s.size).data.toList with
          | none => exact ⟨_, _, _, Lib.hid fun w1 => kUnitF _ w1 z3 hu⟩
          | some x => obtain ⟨p, lg, sz⟩ := x; exact ⟨_, _, _, Lib.hid fun w1 => kUnitT _ w1 z3 p lg sz hu⟩
        obtain ⟨ua, ub, uc, K3⟩ := KU
        clear hb hq hd1 hd2 hd3 hsum
        rcases HG' with g1 | ⟨g1, rfl⟩
        all_goals
          go_wp2_with (first | (go_at_call 71; ((with_reducible refine (K1.out _).mono ?_); rintro e w' ⟨rfl, rfl⟩)) | (go_at_call 21; ((with_reducible refine (K2.out _).mono ?_); rintro e w' ⟨rfl, rfl⟩)) | (go_at_call 72; ((with_reducible refine (K3.out _).mono ?_); rintro e w' ⟨rfl, rfl⟩)))
          go_ret2
          exact ⟨ret2 HR.out.2.symm HR.out.1.symm, rfl⟩
      · -- a number
        have hx : (cntE ((s.data.toList.drop k).take q) 1099511627776 = 0 ∧ cntV ((s.data.toList.drop k).take q) 1099511627776 = val ((s.data.toList.drop k).take q) ∧ val ((s.data.toList.drop k).take q) ≤ 1099511627776) ∨ (cntE ((s.data.toList.drop k).take q) 1099511627776 = 9 ∧ cntV ((s.data.toList.drop k).take q) 1099511627776 = 0 ∧ 1099511627776 < val ((s.data.toList.drop k).take q)) := by
          by_cases h : (1099511627776 : Int) < val ((s.data.toList.drop k).take q)
          · exact .inr ⟨cntE_big (by omega) hb h, cntV_big h, by omega⟩
          · exact .inl ⟨cntE_ok hb (by omega), cntV_ok hb (by omega), by omega⟩
        generalize cntE ((s.data.toList.drop k).take q) 1099511627776 = x at *
        generalize cntV ((s.data.toList.drop k).take q) 1099511627776 = v at *
        have hx3 : (x == 3) = false := beqF (by omega)
        cases hu : uD (s.extract (k + q) s.size).data.toList with
        | none =>
          have K3 := Lib.hid (fun w1 => kUnitF (s.extract (k + q) s.size) w1 z3 hu)
          have HR := Lib.hid (dur_none (l := s.data.toList) (by rw [HE.out]; exact durF_nounit (by rw [hq, ← hd3]; exact hu)))
          clear hb hq hd1 hd2 hd3 hsum hx hu
          rcases HG' with g1 | ⟨g1, rfl⟩
          all_goals
            go_wp2_with (first | (go_at_call 71; ((with_reducible refine (K1.out _).mono ?_); rintro e w' ⟨rfl, rfl⟩)) | (go_at_call 21; ((with_reducible refine (K2.out _).mono ?_); rintro e w' ⟨rfl, rfl⟩)) | (go_at_call 72; ((with_reducible refine (K3.out _).mono ?_); rintro e w' ⟨rfl, rfl⟩)))
            go_ret2
            exact ⟨ret2 HR.out.2.symm HR.out.1.symm, rfl⟩
        | some y =>
          obtain ⟨p, lg, sz⟩ := y
          have K3 := Lib.hid (fun w1 => kUnitT (s.extract (k + q) s.size) w1 z3 p lg sz hu)
          obtain ⟨hp1, hp4, hsz1, hsz2, hszl, hlg⟩ := uD_place hu
          rw [len_eq, ByteArray.size_extract] at hszl
          have hle : k + q + sz ≤ s.size := by omega
          have hks : k < s.size := by omega
          rw [hd3, ← hq] at hu
          have hs0 : ((sz : Int) == 0) = false := beqF (by omega)
          clear HG'
          by_cases hpl : p ≤ last
          · have HR := Lib.hid (dur_none (l := s.data.toList) (by rw [HE.out]; exact durF_order hu hpl))
            clear hb hq hd1 hd2 hd3 hsum hx hu
            go_wp2_with (first | (go_at_call 71; ((with_reducible refine (K1.out _).mono ?_); rintro e w' ⟨rfl, rfl⟩)) | (go_at_call 21; ((with_reducible refine (K2.out _).mono ?_); rintro e w' ⟨rfl, rfl⟩)) | (go_at_call 72; ((with_reducible refine (K3.out _).mono ?_); rintro e w' ⟨rfl, rfl⟩)))
            go_ret2
            exact ⟨ret2 HR.out.2.symm HR.out.1.symm, rfl⟩
          · have hpl' : last < p := by omega
            have HS : Hid (val ((s.data.toList.drop k).take q) ≠ 0 ∨ (last = 0 ∧ k + q + sz = s.size) → DurAt s.data.toList (k + q + sz) p (T + val ((s.data.toList.drop k).take q) * lg)) := Lib.hid (fun hz => by
              have := dur_step hl4 hf HE.out hu (by rw [hq]; exact hb) hpl' (by rw [hq, len_eq]; exact hz) (by rw [hq, len_eq]; exact hle)
              rw [hq] at this; exact this)
            have HZ : Hid (val ((s.data.toList.drop k).take q) = 0 → (0 < last ∨ k + q + sz < s.size) → durE s.data.toList = 3 ∧ durV s.data.toList = 0) := Lib.hid (fun h0 h1 => dur_none (by
              rw [HE.out]
              refine durF_zero hu (by rw [hq]; exact h0) ?_
              rcases h1 with h1 | h1
              · exact .inl h1
              · refine .inr ?_
                rw [hq, List.drop_drop, ne_eq, List.drop_eq_nil_iff, len_eq]; omega))
            clear hb hq hd1 hd2 hd3
            obtain ⟨hule, hlit⟩ := uD_some hu
            clear hu hule
            generalize val ((s.data.toList.drop k).take q) = n at *
            by_cases hbad : n = 0 ∧ (0 < last ∨ k + q + sz < s.size)
            · have HR := Lib.hid (HZ.out hbad.1 hbad.2)
              obtain ⟨rfl, rfl⟩ : x = 0 ∧ v = 0 := by omega
              have hb2 : 0 < last ∨ k + q + sz < s.size := hbad.2
              clear hbad hx hsum hlit
              rcases hb2 with hb2 | hb2
              all_goals
                go_wp2_with (first | (go_at_call 71; ((with_reducible refine (K1.out _).mono ?_); rintro e w' ⟨rfl, rfl⟩)) | (go_at_call 21; ((with_reducible refine (K2.out _).mono ?_); rintro e w' ⟨rfl, rfl⟩)) | (go_at_call 72; ((with_reducible refine (K3.out _).mono ?_); rintro e w' ⟨rfl, rfl⟩)))
                all_goals
                  go_ret2
                  exact ⟨ret2 HR.out.2.symm HR.out.1.symm, rfl⟩
            · have HA := Lib.hid (HS.out (by omega))
              clear HS HZ
              rcases hlit with ⟨rfl, rfl, rfl, _⟩ | ⟨rfl, rfl, rfl, _⟩ | ⟨rfl, rfl, rfl, _⟩ | ⟨rfl, rfl, rfl, _⟩
              · rcases hx with ⟨rfl, rfl, hnM⟩ | ⟨rfl, rfl, hnM⟩
                · have hzc : ((n : Int) == 0) = false ∨ (((n : Int) == 0) = true ∧ (last : Int) ≤ 0 ∧ (s.size : Int) ≤ k + q + 1) := by
                    by_cases h0 : n = 0
                    · exact .inr ⟨beqT (by omega), by omega, by omega⟩
                    · exact .inl (beqF (by omega))
                  clear hbad
                  rcases hzc with c1 | ⟨c1, c2, c3⟩
                  all_goals
                    rcases hsum with ⟨rfl, rfl, hT⟩ | ⟨rfl, hT, m, rfl⟩
                    · by_cases hTn : T + n * 3600000 ≤ 1099511627776
                      · have hdq : decide ((1099511627776 - (T : Int)) / 3600000 < (n : Int)) = false := decF (by omega)
                        go_wp2_with (first | (go_at_call 71; ((with_reducible refine (K1.out _).mono ?_); rintro e w' ⟨rfl, rfl⟩)) | (go_at_call 21; ((with_reducible refine (K2.out _).mono ?_); rintro e w' ⟨rfl, rfl⟩)) | (go_at_call 72; ((with_reducible refine (K3.out _).mono ?_); rintro e w' ⟨rfl, rfl⟩)))
                        go_round
                        case rel => exact ⟨k + q + 1, 1, T + n * 3600000, by omega, .inl ⟨rfl, by first | (congr 1; done) | (congr 1; omega), hTn⟩, HA, rfl, by congr 1⟩
                        case measure => simp [intOf]; omega
                      · have hdq : decide ((1099511627776 - (T : Int)) / 3600000 < (n : Int)) = true := decT (by omega)
                        go_wp2_with (first | (go_at_call 71; ((with_reducible refine (K1.out _).mono ?_); rintro e w' ⟨rfl, rfl⟩)) | (go_at_call 21; ((with_reducible refine (K2.out _).mono ?_); rintro e w' ⟨rfl, rfl⟩)) | (go_at_call 72; ((with_reducible refine (K3.out _).mono ?_); rintro e w' ⟨rfl, rfl⟩)))
                        go_round
                        case rel => exact ⟨k + q + 1, 1, T + n * 3600000, by omega, .inr ⟨rfl, by omega, _, rfl⟩, HA, rfl, by congr 1⟩
                        case measure => simp [intOf]; omega
                    · go_wp2_with (first | (go_at_call 71; ((with_reducible refine (K1.out _).mono ?_); rintro e w' ⟨rfl, rfl⟩)) | (go_at_call 21; ((with_reducible refine (K2.out _).mono ?_); rintro e w' ⟨rfl, rfl⟩)) | (go_at_call 72; ((with_reducible refine (K3.out _).mono ?_); rintro e w' ⟨rfl, rfl⟩)))
                      go_round
                      case rel => exact ⟨k + q + 1, 1, T + n * 3600000, by omega, .inr ⟨rfl, by omega, _, rfl⟩, HA, rfl, by congr 1⟩
                      case measure => simp [intOf]; omega
                · clear hbad
                  rcases hsum with ⟨rfl, rfl, hT⟩ | ⟨rfl, hT, m, rfl⟩
                  all_goals
                    go_wp2_with (first | (go_at_call 71; ((with_reducible refine (K1.out _).mono ?_); rintro e w' ⟨rfl, rfl⟩)) | (go_at_call 21; ((with_reducible refine (K2.out _).mono ?_); rintro e w' ⟨rfl, rfl⟩)) | (go_at_call 72; ((with_reducible refine (K3.out _).mono ?_); rintro e w' ⟨rfl, rfl⟩)))
                    go_round
                    case rel => exact ⟨k + q + 1, 1, T + n * 3600000, by omega, .inr ⟨rfl, by omega, _, rfl⟩, HA, rfl, by congr 1⟩
                    case measure => simp [intOf]; omega
              · rcases hx with ⟨rfl, rfl, hnM⟩ | ⟨rfl, rfl, hnM⟩
                · have hzc : ((n : Int) == 0) = false ∨ (((n : Int) == 0) = true ∧ (last : Int) ≤ 0 ∧ (s.size : Int) ≤ k + q + 2) := by
                    by_cases h0 : n = 0
                    · exact .inr ⟨beqT (by omega), by omega, by omega⟩
                    · exact .inl (beqF (by omega))
                  clear hbad
                  rcases hzc with c1 | ⟨c1, c2, c3⟩
                  all_goals
                    rcases hsum with ⟨rfl, rfl, hT⟩ | ⟨rfl, hT, m, rfl⟩
                    · by_cases hTn : T + n * 1 ≤ 1099511627776
                      · have hdq : decide (1099511627776 - (T : Int) < (n : Int)) = false := decF (by omega)
                        go_wp2_with (first | (go_at_call 71; ((with_reducible refine (K1.out _).mono ?_); rintro e w' ⟨rfl, rfl⟩)) | (go_at_call 21; ((with_reducible refine (K2.out _).mono ?_); rintro e w' ⟨rfl, rfl⟩)) | (go_at_call 72; ((with_reducible refine (K3.out _).mono ?_); rintro e w' ⟨rfl, rfl⟩)))
                        go_round
                        case rel => exact ⟨k + q + 2, 4, T + n * 1, by omega, .inl ⟨rfl, by first | (congr 1; done) | (congr 1; omega), hTn⟩, HA, rfl, by congr 1⟩
                        case measure => simp [intOf]; omega
                      · have hdq : decide (1099511627776 - (T : Int) < (n : Int)) = true := decT (by omega)
                        go_wp2_with (first | (go_at_call 71; ((with_reducible refine (K1.out _).mono ?_); rintro e w' ⟨rfl, rfl⟩)) | (go_at_call 21; ((with_reducible refine (K2.out _).mono ?_); rintro e w' ⟨rfl, rfl⟩)) | (go_at_call 72; ((with_reducible refine (K3.out _).mono ?_); rintro e w' ⟨rfl, rfl⟩)))
                        go_round
                        case rel => exact ⟨k + q + 2, 4, T + n * 1, by omega, .inr ⟨rfl, by omega, _, rfl⟩, HA, rfl, by congr 1⟩
                        case measure => simp [intOf]; omega
                    · go_wp2_with (first | (go_at_call 71; ((with_reducible refine (K1.out _).mono ?_); rintro e w' ⟨rfl, rfl⟩)) | (go_at_call 21; ((with_reducible refine (K2.out _).mono ?_); rintro e w' ⟨rfl, rfl⟩)) | (go_at_call 72; ((with_reducible refine (K3.out _).mono ?_); rintro e w' ⟨rfl, rfl⟩)))
                      go_round
                      case rel => exact ⟨k + q + 2, 4, T + n * 1, by omega, .inr ⟨rfl, by omega, _, rfl⟩, HA, rfl, by congr 1⟩
                      case measure => simp [intOf]; omega
                · clear hbad
                  rcases hsum with ⟨rfl, rfl, hT⟩ | ⟨rfl, hT, m, rfl⟩
                  all_goals
                    go_wp2_with (first | (go_at_call 71; ((with_reducible refine (K1.out _).mono ?_); rintro e w' ⟨rfl, rfl⟩)) | (go_at_call 21; ((with_reducible refine (K2.out _).mono ?_); rintro e w' ⟨rfl, rfl⟩)) | (go_at_call 72; ((with_reducible refine (K3.out _).mono ?_); rintro e w' ⟨rfl, rfl⟩)))
                    go_round
                    case rel => exact ⟨k + q + 2, 4, T + n * 1, by omega, .inr ⟨rfl, by omega, _, rfl⟩, HA, rfl, by congr 1⟩
                    case measure => simp [intOf]; omega
              · rcases hx with ⟨rfl, rfl, hnM⟩ | ⟨rfl, rfl, hnM⟩
                · have hzc : ((n : Int) == 0) = false ∨ (((n : Int) == 0) = true ∧ (last : Int) ≤ 0 ∧ (s.size : Int) ≤ k + q + 1) := by
                    by_cases h0 : n = 0
                    · exact .inr ⟨beqT (by omega), by omega, by omega⟩
                    · exact .inl (beqF (by omega))
                  clear hbad
                  rcases hzc with c1 | ⟨c1, c2, c3⟩
                  all_goals
                    rcases hsum with ⟨rfl, rfl, hT⟩ | ⟨rfl, hT, m, rfl⟩
                    · by_cases hTn : T + n * 60000 ≤ 1099511627776
                      · have hdq : decide ((1099511627776 - (T : Int)) / 60000 < (n : Int)) = false := decF (by omega)
                        go_wp2_with (first | (go_at_call 71; ((with_reducible refine (K1.out _).mono ?_); rintro e w' ⟨rfl, rfl⟩)) | (go_at_call 21; ((with_reducible refine (K2.out _).mono ?_); rintro e w' ⟨rfl, rfl⟩)) | (go_at_call 72; ((with_reducible refine (K3.out _).mono ?_); rintro e w' ⟨rfl, rfl⟩)))
                        go_round
                        case rel => exact ⟨k + q + 1, 2, T + n * 60000, by omega, .inl ⟨rfl, by first | (congr 1; done) | (congr 1; omega), hTn⟩, HA, rfl, by congr 1⟩
                        case measure => simp [intOf]; omega
                      · have hdq : decide ((1099511627776 - (T : Int)) / 60000 < (n : Int)) = true := decT (by omega)
                        go_wp2_with (first | (go_at_call 71; ((with_reducible refine (K1.out _).mono ?_); rintro e w' ⟨rfl, rfl⟩)) | (go_at_call 21; ((with_reducible refine (K2.out _).mono ?_); rintro e w' ⟨rfl, rfl⟩)) | (go_at_call 72; ((with_reducible refine (K3.out _).mono ?_); rintro e w' ⟨rfl, rfl⟩)))
                        go_round
                        case rel => exact ⟨k + q + 1, 2, T + n * 60000, by omega, .inr ⟨rfl, by omega, _, rfl⟩, HA, rfl, by congr 1⟩
                        case measure => simp [intOf]; omega
                    · go_wp2_with (first | (go_at_call 71; ((with_reducible refine (K1.out _).mono ?_); rintro e w' ⟨rfl, rfl⟩)) | (go_at_call 21; ((with_reducible refine (K2.out _).mono ?_); rintro e w' ⟨rfl, rfl⟩)) | (go_at_call 72; ((with_reducible refine (K3.out _).mono ?_); rintro e w' ⟨rfl, rfl⟩)))
                      go_round
                      case rel => exact ⟨k + q + 1, 2, T + n * 60000, by omega, .inr ⟨rfl, by omega, _, rfl⟩, HA, rfl, by congr 1⟩
                      case measure => simp [intOf]; omega
                · clear hbad
                  rcases hsum with ⟨rfl, rfl, hT⟩ | ⟨rfl, hT, m, rfl⟩
                  all_goals
                    go_wp2_with (first | (go_at_call 71; ((with_reducible refine (K1.out _).mono ?_); rintro e w' ⟨rfl, rfl⟩)) | (go_at_call 21; ((with_reducible refine (K2.out _).mono ?_); rintro e w' ⟨rfl, rfl⟩)) | (go_at_call 72; ((with_reducible refine (K3.out _).mono ?_); rintro e w' ⟨rfl, rfl⟩)))
                    go_round
                    case rel => exact ⟨k + q + 1, 2, T + n * 60000, by omega, .inr ⟨rfl, by omega, _, rfl⟩, HA, rfl, by congr 1⟩
                    case measure => simp [intOf]; omega
              · rcases hx with ⟨rfl, rfl, hnM⟩ | ⟨rfl, rfl, hnM⟩
                · have hzc : ((n : Int) == 0) = false ∨ (((n : Int) == 0) = true ∧ (last : Int) ≤ 0 ∧ (s.size : Int) ≤ k + q + 1) := by
                    by_cases h0 : n = 0
                    · exact .inr ⟨beqT (by omega), by omega, by omega⟩
                    · exact .inl (beqF (by omega))
                  clear hbad
                  rcases hzc with c1 | ⟨c1, c2, c3⟩
                  all_goals
                    rcases hsum with ⟨rfl, rfl, hT⟩ | ⟨rfl, hT, m, rfl⟩
                    · by_cases hTn : T + n * 1000 ≤ 1099511627776
                      · have hdq : decide ((1099511627776 - (T : Int)) / 1000 < (n : Int)) = false := decF (by omega)
                        go_wp2_with (first | (go_at_call 71; ((with_reducible refine (K1.out _).mono ?_); rintro e w' ⟨rfl, rfl⟩)) | (go_at_call 21; ((with_reducible refine (K2.out _).mono ?_); rintro e w' ⟨rfl, rfl⟩)) | (go_at_call 72; ((with_reducible refine (K3.out _).mono ?_); rintro e w' ⟨rfl, rfl⟩)))
                        go_round
                        case rel => exact ⟨k + q + 1, 3, T + n * 1000, by omega, .inl ⟨rfl, by first | (congr 1; done) | (congr 1; omega), hTn⟩, HA, rfl, by congr 1⟩
                        case measure => simp [intOf]; omega
                      · have hdq : decide ((1099511627776 - (T : Int)) / 1000 < (n : Int)) = true := decT (by omega)
                        go_wp2_with (first | (go_at_call 71; ((with_reducible refine (K1.out _).mono ?_); rintro e w' ⟨rfl, rfl⟩)) | (go_at_call 21; ((with_reducible refine (K2.out _).mono ?_); rintro e w' ⟨rfl, rfl⟩)) | (go_at_call 72; ((with_reducible refine (K3.out _).mono ?_); rintro e w' ⟨rfl, rfl⟩)))
                        go_round
                        case rel => exact ⟨k + q + 1, 3, T + n * 1000, by omega, .inr ⟨rfl, by omega, _, rfl⟩, HA, rfl, by congr 1⟩
                        case measure => simp [intOf]; omega
                    · go_wp2_with (first | (go_at_call 71; ((with_reducible refine (K1.out _).mono ?_); rintro e w' ⟨rfl, rfl⟩)) | (go_at_call 21; ((with_reducible refine (K2.out _).mono ?_); rintro e w' ⟨rfl, rfl⟩)) | (go_at_call 72; ((with_reducible refine (K3.out _).mono ?_); rintro e w' ⟨rfl, rfl⟩)))
                      go_round
                      case rel => exact ⟨k + q + 1, 3, T + n * 1000, by omega, .inr ⟨rfl, by omega, _, rfl⟩, HA, rfl, by congr 1⟩
                      case measure => simp [intOf]; omega
                · clear hbad
                  rcases hsum with ⟨rfl, rfl, hT⟩ | ⟨rfl, hT, m, rfl⟩
                  all_goals
                    go_wp2_with (first | (go_at_call 71; ((with_reducible refine (K1.out _).mono ?_); rintro e w' ⟨rfl, rfl⟩)) | (go_at_call 21; ((with_reducible refine (K2.out _).mono ?_); rintro e w' ⟨rfl, rfl⟩)) | (go_at_call 72; ((with_reducible refine (K3.out _).mono ?_); rintro e w' ⟨rfl, rfl⟩)))
                    go_round
                    case rel => exact ⟨k + q + 1, 3, T + n * 1000, by omega, .inr ⟨rfl, by omega, _, rfl⟩, HA, rfl, by congr 1⟩
                    case measure => simp [intOf]; omega
    · rw [len_eq] at hend
      have hl' : ((last : Int) == 0) = false := beqF (by omega)
      have hk' : ¬ k < s.size := by omega
      clear hat
      rcases hsum with ⟨rfl, rfl, hT⟩ | ⟨rfl, hT, m, rfl⟩
      · have HR := Lib.hid (dur_ok he hT)
        clear he hend
        go_wp2_with fail
        go_ret2
        exact ⟨ret2 HR.out.2.symm HR.out.1.symm, rfl⟩
      · have HR := Lib.hid (dur_big he hT)
        clear he hend
        go_wp2_with fail
        go_ret2
        exact ⟨ret2 HR.out.2.symm HR.out.1.symm, rfl⟩
end Go.Proofs.Ytglihjdbbpohlaa.W
