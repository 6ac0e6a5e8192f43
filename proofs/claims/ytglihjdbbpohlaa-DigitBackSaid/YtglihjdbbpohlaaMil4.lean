/- Contract of the reference's reader of thousandths. -/
import Derived.Test.YtglihjdbbpohlaaMil3
namespace Go.Proofs.Ytglihjdbbpohlaa.W
open Go.RowKit Go.Proofs.Ytglihjdbbpohlaa.Pl

/-- how long a text is (a measure) -/
def strLen (v : Go.Value) : Nat := match v with | .string s => s.size | _ => 0
/-- the digits behind the point, filled up with zeros -/
def padTo (l : List UInt8) (j : Nat) : List UInt8 := (l ++ [48, 48, 48]).take j
theorem padTo_len (l : List UInt8) (j : Nat) (hj : j ≤ 3) : (padTo l j).length = j := by unfold padTo; simp; omega
theorem padTo_self (l : List UInt8) : padTo l l.length = l := by unfold padTo; simp
theorem padTo_succ (l : List UInt8) (j : Nat) (h : l.length ≤ j) (hj : j < 3) : padTo l (j + 1) = padTo l j ++ [48] := by
  unfold padTo
  rw [List.take_succ_eq_append_getElem (by simp; omega), List.getElem_append_right h]
  have h3 : j - l.length < 3 := by omega
  congr 2
  rcases (show j - l.length = 0 ∨ j - l.length = 1 ∨ j - l.length = 2 by omega) with e | e | e <;> simp [e]
theorem padTo_dig (l : List UInt8) (j : Nat) (h : allDig l = true) : allDig (padTo l j) = true := by
  unfold padTo allDig at *
  rw [List.all_eq_true] at *
  intro c hc
  have := List.mem_of_mem_take hc
  rw [List.mem_append] at this
  rcases this with h1 | h1
  · exact h c h1
  · simp at h1; subst h1; decide
theorem valS_pad (l : List UInt8) (h : allDig l = true) : valS (padTo l 3) = mpart l 3 := by
  have h1 := padTo_dig l 3 h
  have h2 := val_lt_pow _ h1
  rw [padTo_len l 3 (by omega)] at h2
  rw [valS_small (by omega)]; rfl

theorem kValueD (s : ByteArray) (w : World) (hs : s.size ≤ 140737488355328) (hd : allDig s.data.toList = true) (c : Int) (hc : valS s.data.toList = c) :
    Calls Try.prog 63 #[.string s] w fun e w' => e = .returned (.int .i64 c) ∧ w = w' :=
  hc ▸ kValue s w hs hd
theorem kValueBs (l : List UInt8) (w : World) (hs : l.length ≤ 3) (hd : allDig l = true) (c : Int) (hc : valS l = c) :
    Calls Try.prog 63 #[.string (bs l)] w fun e w' => e = .returned (.int .i64 c) ∧ w = w' := by
  have := kValue (bs l) w (by rw [bs_size]; omega) (by rw [bs_data]; exact hd)
  rw [bs_data, hc] at this
  exact this

theorem ml_nowhole {h t : List UInt8} (hw : wholeB h = false) : mlE h t = 3 ∧ mlV h t = 0 := by
  by_cases ht : allDig t = true
  · have := ml_head (h := h) ht (by rw [cntE_bad (by omega) hw]; decide)
    rw [this.1, this.2, cntE_bad (by omega) hw]; exact ⟨rfl, rfl⟩
  · exact ml_bad (eq_false_of_ne_true ht)

set_option maxRecDepth 100000 in
set_option maxHeartbeats 4000000 in
theorem kRefMilli_bad (s : ByteArray) (w : World) (hs : s.size ≤ 140737488355328) (p : Nat) (hp : p < s.size) (hp2 : s[p] = 46) (hp3 : NoPoint s p) (t : ByteArray) (h2 : s.extract (p + 1) s.size = t)
    (hub : decide ((t.size : Int) < 1) = true ∨ (decide ((t.size : Int) < 1) = false ∧ decide ((3 : Int) < t.size) = true) ∨ (decide ((t.size : Int) < 1) = false ∧ decide ((3 : Int) < t.size) = false ∧ ∃ h : t.size - 1 < t.size, ((t[t.size - 1].toNat : Int) == 48) = true ∧ 1 ≤ t.size ∧ t.size ≤ 3)) :
    Calls Try.prog 25 #[.string s] w fun e w' => e = .returned (.tuple #[.int .i64 0, .int .i64 3]) ∧ w = w' := by
  have H3 := Lib.hid hp3
  have H4 := Lib.hid hp2
  clear hp3 hp2
  go_enter Try.func25, Try.ntmps25
  go_wp2_with fail
  go_loop [4] (fun i => ∃ k : Nat, k ≤ p ∧ i = .int .i64 k) (fun i => s.size - (intOf i).toNat)
  case atStart => exact ⟨0, Nat.zero_le _, rfl⟩
  case round =>
    obtain ⟨k, hk, rfl⟩ := hrel
    by_cases hlt : k < p
    · have hlt2 : k < s.size := by omega
      have hne := byte_ne (H3.out k hlt2 hlt)
      have hne' : ((s[k].toNat : Int) != 46) = true := by rw [bne, show ((s[k].toNat : Int) == 46) = false from hne]; rfl
      clear hne
      go_wp2_with fail
      go_round
      case rel => exact ⟨k + 1, by omega, by go_num⟩
      case measure => simp [intOf]; omega
    · obtain rfl : k = p := by omega
      have hne' : ((s[k].toNat : Int) != 46) = false := by rw [bne, show ((s[k].toNat : Int) == 46) = true from byte_eq H4.out]; rfl
      rcases hub with e1 | ⟨e1, e2⟩ | ⟨e1, e2, e3, e4, e5, e6⟩
      all_goals
        go_wp2_with fail
        go_ret2
        exact ⟨rfl, rfl⟩

set_option maxRecDepth 100000 in
set_option maxHeartbeats 8000000 in
theorem kRefMilli_core (s : ByteArray) (w : World) (hs : s.size ≤ 140737488355328) (p : Nat) (hp3 : NoPoint s p) (h t : ByteArray) (hhs : h.size ≤ 140737488355328) (hts : t.size ≤ 3)
    (hA : (∃ hp : p < s.size, Hid (s[p] = 46) ∧ s.extract 0 p = h ∧ s.extract (p + 1) s.size = t ∧ decide ((t.size : Int) < 1) = false ∧ decide ((3 : Int) < t.size) = false ∧ 1 ≤ t.size ∧ ∃ h : t.size - 1 < t.size, ((t[t.size - 1].toNat : Int) == 48) = false) ∨ (p = s.size ∧ h = s ∧ (⟨#[]⟩ : ByteArray) = t ∧ t.size < 1)) :
    Calls Try.prog 25 #[.string s] w fun e w' => e = .returned (.tuple #[.int .i64 (mlV h.data.toList t.data.toList), .int .i64 (mlE h.data.toList t.data.toList)]) ∧ w = w' := by
  have hpl : p ≤ s.size := by rcases hA with ⟨hp, _⟩ | ⟨hp, _⟩ <;> omega
  have H3 := Lib.hid hp3
  clear hp3
  have HB := Lib.hid (fun ht => ml_bad (h := h.data.toList) (t := t.data.toList) ht)
  go_enter Try.func25, Try.ntmps25
  go_wp2_with fail
  go_loop [4] (fun i => ∃ k : Nat, k ≤ p ∧ i = .int .i64 k) (fun i => s.size - (intOf i).toNat)
  case atStart => exact ⟨0, Nat.zero_le _, rfl⟩
  case round =>
    obtain ⟨k, hk, rfl⟩ := hrel
    by_cases hlt : k < p
    · have hlt2 : k < s.size := by omega
      have hne := byte_ne (H3.out k hlt2 hlt)
      have hne' : ((s[k].toNat : Int) != 46) = true := by rw [bne, show ((s[k].toNat : Int) == 46) = false from hne]; rfl
      clear hne hA
      go_wp2_with fail
      go_round
      case rel => exact ⟨k + 1, by omega, by go_num⟩
      case measure => simp [intOf]; omega
    · obtain rfl : k = p := by omega
      have hw : (∃ b, wholeB h.data.toList = b) := ⟨_, rfl⟩
      rcases hA with ⟨hp, h4, hx, hy, e1, e2, e3, e4, e5⟩ | ⟨hp, rfl, hz, e1⟩
      all_goals
        first
          | (have hne' : ((s[k].toNat : Int) != 46) = false := by rw [bne, show ((s[k].toNat : Int) == 46) = true from byte_eq h4.out]; rfl)
          | (subst hp; clear e1)
        obtain ⟨b, hw⟩ := hw
        cases b
        · have HW := Lib.hid hw
          have HR := Lib.hid (ml_nowhole (t := t.data.toList) hw)
          clear hw
          go_wp2_with (go_at_call 62; ((with_reducible refine (kWholeF _ _ hhs HW.out).mono ?_); rintro e w' ⟨rfl, rfl⟩))
          go_ret2
          exact ⟨ret2 HR.out.2.symm HR.out.1.symm, rfl⟩
        · have HW := Lib.hid hw
          clear hw
          go_wp2_with (go_at_call 62; ((with_reducible refine (kWholeT _ _ hhs HW.out).mono ?_); rintro e w' ⟨rfl, rfl⟩))
          have hdh := Lib.hid (wholeB_dig HW.out)
          have HH := Lib.hid (fun ht => ml_head (h := h.data.toList) (t := t.data.toList) ht)
          have HO := Lib.hid (fun ht => ml_over (h := h.data.toList) (t := t.data.toList) ht)
          have HK := Lib.hid (fun ht => ml_ok (h := h.data.toList) (t := t.data.toList) ht)
          go_loop [6] (fun i => ∃ m : Nat, m ≤ t.size ∧ Hid (allDig (t.data.toList.take m) = true) ∧ i = .int .i64 m) (fun i => t.size - (intOf i).toNat)
          case atStart => exact ⟨0, by omega, Lib.hid (by rw [List.take_zero]; rfl), rfl⟩
          case round =>
            obtain ⟨m, hm, hd, rfl⟩ := hrel
            by_cases hlt2 : m < t.size
            · by_cases hc : isDig t[m] = true
              · have hc' := (isDig_iff _).1 hc
                have HA : Hid (allDig (t.data.toList.take (m + 1)) = true) := Lib.hid (by rw [allDig_take t m hlt2, hd.out, hc]; rfl)
                clear hc
                go_wp2_with fail
                go_round
                case rel => exact ⟨m + 1, by omega, HA, by go_num⟩
                case measure => simp [intOf]; omega
              · have hc := eq_false_of_ne_true hc
                have hb := Lib.hid (HB.out (allDig_bad t m hlt2 hc))
                have hc' := (isDig_false _).1 hc
                have hub := UInt8.toNat_lt t[m]
                clear hc
                rcases hc' with hc' | hc'
                all_goals
                  go_wp2_with fail
                  go_ret2
                  exact ⟨ret2 hb.out.2.symm hb.out.1.symm, rfl⟩
            · have HD : Hid (allDig t.data.toList = true) := Lib.hid (by rw [← take_all t m (by omega)]; exact hd.out)
              go_wp2_with fail
              go_loop [5] (fun v => ∃ j : Nat, t.size ≤ j ∧ j ≤ 3 ∧ v = .string (bs (padTo t.data.toList j))) (fun v => 3 - strLen v)
              case atStart => exact ⟨t.size, by omega, hts, by rw [← len_eq, padTo_self, bs_of]⟩
              case round =>
                obtain ⟨j, hj1, hj2, rfl⟩ := hrel
                have hsz : (bs (padTo t.data.toList j)).size = j := by rw [bs_size, padTo_len _ _ hj2]
                by_cases hj3 : j < 3
                · have HS := Lib.hid (padTo_succ t.data.toList j (by rw [len_eq]; exact hj1) hj3)
                  have hsz2 : (bs (padTo t.data.toList (j + 1))).size = j + 1 := by rw [bs_size, padTo_len _ _ (by omega)]
                  have hap : bs (padTo t.data.toList j) ++ (⟨#[48]⟩ : ByteArray) = bs (padTo t.data.toList (j + 1)) := by rw [HS.out, ← bs_append]; rfl
                  obtain ⟨l2, hl2⟩ : ∃ l2, padTo t.data.toList (j + 1) = l2 := ⟨_, rfl⟩
                  rw [hl2] at hsz2 hap
                  have HL := Lib.hid hl2
                  clear hl2
                  go_wp2_with fail
                  go_round
                  case rel => exact ⟨j + 1, by omega, by omega, by rw [HL.out]⟩
                  case measure => simp only [strLen]; omega
                · obtain rfl : j = 3 := by omega
                  have hn0 : ∃ n, valS h.data.toList = n := ⟨_, rfl⟩
                  obtain ⟨n, hn⟩ := hn0
                  have hq := mpart_le' t.data.toList HD.out
                  have KV := Lib.hid (fun w1 => kValueBs (padTo t.data.toList 3) w1 (by rw [padTo_len _ _ (by omega)]; omega) (padTo_dig _ _ HD.out) _ (valS_pad _ HD.out))
                  have HC := Lib.hid (ml_ref (h := h.data.toList) (t := t.data.toList) HW.out HD.out)
                  rw [hn] at HC
                  have hn00 : 0 ≤ n := by rw [← hn]; unfold valS; split <;> omega
                  have Hn := Lib.hid hn
                  clear hn
                  generalize mpart t.data.toList 3 = q at *
                  generalize padTo t.data.toList 3 = l2 at *
                  have hcs : 9007199254740 < n ∨ (n ≤ 9007199254740 ∧ (9007199254740992 < n * 1000 + q ∨ n * 1000 + q ≤ 9007199254740992)) := by omega
                  rcases hcs with c1 | ⟨c1, c2 | c2⟩
                  · have HR := Lib.hid (HC.out.1 (.inl c1))
                    go_wp2_with (go_at_call 63; first | ((with_reducible refine (kValueD _ _ hhs hdh.out n Hn.out).mono ?_); rintro e w' ⟨rfl, rfl⟩) | ((with_reducible refine (KV.out _).mono ?_); rintro e w' ⟨rfl, rfl⟩))
                    go_ret2
                    exact ⟨ret2 HR.out.2.symm HR.out.1.symm, rfl⟩
                  · have HR := Lib.hid (HC.out.1 (.inr c2))
                    go_wp2_with (go_at_call 63; first | ((with_reducible refine (kValueD _ _ hhs hdh.out n Hn.out).mono ?_); rintro e w' ⟨rfl, rfl⟩) | ((with_reducible refine (KV.out _).mono ?_); rintro e w' ⟨rfl, rfl⟩))
                    go_ret2
                    exact ⟨ret2 HR.out.2.symm HR.out.1.symm, rfl⟩
                  · have HR := Lib.hid (HC.out.2 c1 c2)
                    go_wp2_with (go_at_call 63; first | ((with_reducible refine (kValueD _ _ hhs hdh.out n Hn.out).mono ?_); rintro e w' ⟨rfl, rfl⟩) | ((with_reducible refine (KV.out _).mono ?_); rintro e w' ⟨rfl, rfl⟩))
                    go_ret2
                    exact ⟨ret2 HR.out.2.symm HR.out.1.symm, rfl⟩

theorem kRefMilli (s : ByteArray) (w : World) (hs : s.size ≤ 140737488355328) :
    Calls Try.prog 25 #[.string s] w fun e w' => e = .returned (.tuple #[.int .i64 (milV s.data.toList), .int .i64 (milE s.data.toList)]) ∧ w = w' := by
  by_cases hp : pt s.data.toList < s.size
  · have hpl : pt s.data.toList < s.data.toList.length := by rw [len_eq]; exact hp
    have h46 : s[pt s.data.toList] = 46 := pt_get _ hpl
    have hno : NoPoint s (pt s.data.toList) := fun j h hj => pt_lt _ j hj (by rw [len_eq]; exact h)
    have hdat : (s.extract (pt s.data.toList + 1) s.size).data.toList = s.data.toList.drop (pt s.data.toList + 1) := Lib.extract_to_end _ _
    have hdat0 : (s.extract 0 (pt s.data.toList)).data.toList = s.data.toList.take (pt s.data.toList) := by rw [Lib.extract_data]; simp
    have hsz0 : (s.extract 0 (pt s.data.toList)).size ≤ 140737488355328 := by rw [ByteArray.size_extract]; omega
    by_cases hb : badTail (s.data.toList.drop (pt s.data.toList + 1))
    · have HR := mil_bad hpl hb
      rw [HR.1, HR.2]
      rw [← hdat] at hb
      refine kRefMilli_bad s w hs _ hp h46 hno _ rfl ?_
      rcases badTail_cases _ hb with h1 | h1 | ⟨h1, h2, h3, h4⟩
      · exact .inl (decT (by omega))
      · exact .inr (.inl ⟨decF (by omega), decT (by omega)⟩)
      · exact .inr (.inr ⟨decF (by omega), decF (by omega), h3, beqT (by rw [h4]; rfl), h1, h2⟩)
    · have HR := mil_good hpl hb
      rw [HR.1, HR.2, ← hdat, ← hdat0]
      rw [← hdat] at hb
      obtain ⟨g1, g2, g3, g4⟩ := goodTail _ hb
      exact kRefMilli_core s w hs _ hno _ _ hsz0 g2 (.inl ⟨hp, Lib.hid h46, rfl, rfl, decF (by omega), decF (by omega), g1, g3, beqF (by omega)⟩)
  · have hpl : ¬ pt s.data.toList < s.data.toList.length := by rw [len_eq]; exact hp
    have HR := mil_none hpl
    rw [HR.1, HR.2]
    have hno : NoPoint s s.size := fun j h hj => pt_lt _ j (by have := hpl; rw [len_eq] at this; omega) (by rw [len_eq]; exact h)
    exact kRefMilli_core s w hs _ hno s ⟨#[]⟩ hs (by decide) (.inr ⟨rfl, rfl, rfl, by decide⟩)
end Go.Proofs.Ytglihjdbbpohlaa.W
