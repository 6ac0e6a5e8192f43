/- Contract of the program's reader of thousandths. -/
import Derived.Test.YtglihjdbbpohlaaDig4
import Derived.Test.YtglihjdbbpohlaaPlD2
namespace Go.Proofs.Ytglihjdbbpohlaa.W
open Go.RowKit Go.Proofs.Ytglihjdbbpohlaa.Pl

theorem ret3s {a b c d : ByteArray} {x y : Bool} (h1 : a = b) (h2 : c = d) (h3 : x = y) : Ending.returned (.tuple #[.string a, .string c, .bool x]) = .returned (.tuple #[.string b, .string d, .bool y]) := by rw [h1, h2, h3]
/-- no point ahead of a place -/
def NoPoint (s : ByteArray) (k : Nat) : Prop := ∀ j (h : j < s.size), j < k → s[j] ≠ 46

theorem byte_eq {c d : UInt8} (h : c = d) : ((c.toNat : Int) == d.toNat) = true := by rw [h]; simp
theorem byte_ne {c d : UInt8} (h : c ≠ d) : ((c.toNat : Int) == d.toNat) = false := beqF fun e => h (UInt8.toNat_inj.1 (by omega))

set_option maxRecDepth 100000 in
theorem ksplitT (s : ByteArray) (w : World) (hs : s.size ≤ 140737488355328) (p : Nat) (hp : p < s.size) (hp2 : s[p] = 46) (hp3 : NoPoint s p) (hd t : ByteArray) (h1 : s.extract 0 p = hd) (h2 : s.extract (p + 1) s.size = t) :
    Calls Try.prog 66 #[.string s] w fun e w' => e = .returned (.tuple #[.string hd, .string t, .bool true]) ∧ ∃ n, w' = w.drewN n := by
  have H1 := Lib.hid h1
  have H2 := Lib.hid h2
  have H3 := Lib.hid hp3
  have H4 := Lib.hid hp2
  clear h1 h2 hp3 hp2
  go_enter Try.func66, Try.ntmps66
  go_wp2
  go_loop [8] (fun i => ∃ k : Nat, k ≤ p ∧ i = .int .i64 k) (fun i => s.size - (intOf i).toNat)
  case atStart => exact ⟨0, Nat.zero_le _, rfl⟩
  case round =>
    obtain ⟨k, hk, rfl⟩ := hrel
    by_cases hlt : k < p
    · have hlt2 : k < s.size := by omega
      have hne := byte_ne (H3.out k hlt2 hlt)
      have hne' : ((s[k].toNat : Int) == 46) = false := hne
      clear hne
      go_wp2
      go_round
      case rel => exact ⟨k + 1, by omega, by go_num⟩
      case measure => simp [intOf]; omega
    · obtain rfl : k = p := by omega
      have hne' : ((s[k].toNat : Int) == 46) = true := byte_eq H4.out
      have hw1 : IntKind.i64.wrap ((k : Int) + 1) = (k : Int) + 1 := IntWalk.i64_in _ (by omega)
      have hw2 : (0 : Int) ≤ (k : Int) + 1 := by omega
      have hw3 : ((k : Int) + 1).toNat = k + 1 := by omega
      go_wp2
      go_quiet (fail)
      go_wp2
      go_ret3
      exact ⟨ret3s H1.out H2.out rfl, _, rfl⟩

set_option maxRecDepth 100000 in
theorem ksplitF (s : ByteArray) (w : World) (hs : s.size ≤ 140737488355328) (hp3 : NoPoint s s.size) :
    Calls Try.prog 66 #[.string s] w fun e w' => e = .returned (.tuple #[.string s, .string ⟨#[]⟩, .bool false]) ∧ ∃ n, w' = w.drewN n := by
  have H3 := Lib.hid hp3
  clear hp3
  go_enter Try.func66, Try.ntmps66
  go_wp2
  go_loop [8] (fun i => ∃ k : Nat, k ≤ s.size ∧ i = .int .i64 k) (fun i => s.size - (intOf i).toNat)
  case atStart => exact ⟨0, Nat.zero_le _, rfl⟩
  case round =>
    obtain ⟨k, hk, rfl⟩ := hrel
    by_cases hlt : k < s.size
    · have hne := byte_ne (H3.out k hlt hlt)
      have hne' : ((s[k].toNat : Int) == 46) = false := hne
      clear hne
      go_wp2
      go_round
      case rel => exact ⟨k + 1, by omega, by go_num⟩
      case measure => simp [intOf]; omega
    · go_wp2
      go_ret3
      exact ⟨rfl, 0, rfl⟩

/-- the facts on what stands behind the point -/
def TailOk (t : ByteArray) (p : Bool) : Prop := (p = false ∧ t.size = 0) ∨ (p = true ∧ 1 ≤ t.size ∧ t.size ≤ 3 ∧ (∃ h : t.size - 1 < t.size, t[t.size - 1].toNat ≠ 48))

set_option maxRecDepth 100000 in
set_option maxHeartbeats 4000000 in
theorem kMilli_core (s : ByteArray) (w : World) (h t : ByteArray) (p : Bool) (hhs : h.size ≤ 140737488355328) (hts : t.size ≤ 3)
    (hsp : Hid (∀ w1, Calls Try.prog 66 #[.string s] w1 fun e w' => e = .returned (.tuple #[.string h, .string t, .bool p]) ∧ ∃ n, w' = w1.drewN n)) (hok : TailOk t p) :
    Calls Try.prog 22 #[.string s] w fun e w' => e = .returned (.tuple #[.int .i64 (mlV h.data.toList t.data.toList), .int .i64 (mlE h.data.toList t.data.toList)]) ∧ ∃ n, w' = w.drewN n := by
  have hc : (p = false) ∨ (p = true ∧ decide ((t.size : Int) < 1) = false ∧ decide ((3 : Int) < t.size) = false ∧ 1 ≤ t.size ∧ ∃ h : t.size - 1 < t.size, ((t[t.size - 1].toNat : Int) == 48) = false) := by
    rcases hok with ⟨hp, _⟩ | ⟨hp, h1, h2, h3, h4⟩
    · exact .inl hp
    · exact .inr ⟨hp, decF (by omega), decF (by omega), h1, h3, beqF (by omega)⟩
  clear hok
  have hcv := cntV_bd h.data.toList 9007199254740 (by omega)
  obtain ⟨hcv1, hcv2⟩ := hcv
  have K := Lib.hid (fun w1 => kwhole h 9007199254740 w1 hhs (by omega) (by omega))
  have HB := Lib.hid (fun ht => ml_bad (h := h.data.toList) (t := t.data.toList) ht)
  have HH := Lib.hid (fun ht => ml_head (h := h.data.toList) (t := t.data.toList) ht)
  have HO := Lib.hid (fun ht => ml_over (h := h.data.toList) (t := t.data.toList) ht)
  have HK := Lib.hid (fun ht => ml_ok (h := h.data.toList) (t := t.data.toList) ht)
  generalize cntV h.data.toList 9007199254740 = v at *
  generalize cntE h.data.toList 9007199254740 = x at *
  rcases hc with rfl | ⟨rfl, e1, e2, e4, e5, e3⟩
  all_goals
    go_enter Try.func22, Try.ntmps22
    go_wp2_with fail
    refine (hsp.out _).mono ?_
    rintro e w1 ⟨rfl, n0, rfl⟩
    go_wp2_with fail
    go_loop [7, 34] (fun n i => ∃ k : Nat, k ≤ 3 ∧ Hid (allDig (t.data.toList.take k) = true) ∧ n = .int .i64 (mpart t.data.toList k) ∧ i = .int .i64 k) (fun _ i => 3 - (intOf i).toNat)
    case atStart => exact ⟨0, by omega, Lib.hid (by rw [List.take_zero]; rfl), by rw [part_zero]; rfl, rfl⟩
    case round =>
      obtain ⟨k, hk, hd, rfl, rfl⟩ := hrel
      have hpl := part_le t.data.toList k hk hd.out
      by_cases hk3 : k < 3
      · by_cases hlt : k < t.size
        · by_cases hc : isDig t[k] = true
          · have hc' := (isDig_iff _).1 hc
            have HA : Hid (allDig (t.data.toList.take (k + 1)) = true) := Lib.hid (by rw [allDig_take t k hlt, hd.out, hc]; rfl)
            have HP : Hid (mpart t.data.toList (k + 1) = mpart t.data.toList k * 10 + (t[k].toNat - 48)) := Lib.hid (part_dig t.data.toList k (by rw [len_eq]; exact hlt))
            clear hc
            generalize mpart t.data.toList k = q at *
            go_wp2_with fail
            go_round
            case rel => exact ⟨k + 1, by omega, HA, by rw [HP.out]; congr 1; omega, by go_num⟩
            case measure => simp [intOf]; omega
          · have hc := eq_false_of_ne_true hc
            have hb := Lib.hid (HB.out (allDig_bad t k hlt hc))
            have hc' := (isDig_false _).1 hc
            have hub := UInt8.toNat_lt t[k]
            clear hc
            rcases hc' with hc' | hc'
            all_goals
              go_wp2_with fail
              go_ret2
              exact ⟨ret2 hb.out.2.symm hb.out.1.symm, _, rfl⟩
        · have HA : Hid (allDig (t.data.toList.take (k + 1)) = true) := Lib.hid (by rw [take_all t (k + 1) (by omega), ← take_all t k (by omega)]; exact hd.out)
          have HP : Hid (mpart t.data.toList (k + 1) = mpart t.data.toList k * 10) := Lib.hid (part_pad t.data.toList k (by rw [len_eq]; omega) hk3)
          generalize mpart t.data.toList k = q at *
          go_wp2_with fail
          go_round
          case rel => exact ⟨k + 1, by omega, HA, by rw [HP.out]; congr 1, by go_num⟩
          case measure => simp [intOf]; omega
      · obtain rfl : k = 3 := by omega
        have HD : Hid (allDig t.data.toList = true) := Lib.hid (by rw [← take_all t 3 hts]; exact hd.out)
        generalize mpart t.data.toList 3 = q at *
        have hx : (x != 0) = true ∨ ((x != 0) = false ∧ (9007199254740992 < v * 1000 + q ∨ v * 1000 + q ≤ 9007199254740992)) := by
          by_cases h0 : x = 0
          · exact .inr ⟨bneF' h0, by omega⟩
          · exact .inl (bneT' h0)
        rcases hx with h0 | ⟨h0, h1 | h1⟩
        · have HR : Hid (_ ∧ _) := Lib.hid (HH.out HD.out (by simpa using h0))
          go_wp2_with fail
          refine (K.out _).mono ?_
          rintro e w1 ⟨rfl, rfl⟩
          go_wp2_with fail
          go_ret2
          exact ⟨ret2 HR.out.2.symm HR.out.1.symm, _, rfl⟩
        · have HR : Hid (_ ∧ _) := Lib.hid (HO.out HD.out (by simpa using h0) h1)
          go_wp2_with fail
          refine (K.out _).mono ?_
          rintro e w1 ⟨rfl, rfl⟩
          go_wp2_with fail
          go_ret2
          exact ⟨ret2 HR.out.2.symm HR.out.1.symm, _, rfl⟩
        · have HR : Hid (_ ∧ _) := Lib.hid (HK.out HD.out (by simpa using h0) (by omega))
          go_wp2_with fail
          refine (K.out _).mono ?_
          rintro e w1 ⟨rfl, rfl⟩
          go_wp2_with fail
          go_ret2
          exact ⟨ret2 HR.out.2.symm HR.out.1.symm, _, rfl⟩

theorem kMilli (s : ByteArray) (w : World) (hs : s.size ≤ 140737488355328) :
    Calls Try.prog 22 #[.string s] w fun e w' => e = .returned (.tuple #[.int .i64 (milV s.data.toList), .int .i64 (milE s.data.toList)]) ∧ ∃ n, w' = w.drewN n := by
  by_cases hp : pt s.data.toList < s.size
  · have hpl : pt s.data.toList < s.data.toList.length := by rw [len_eq]; exact hp
    have h46 : s[pt s.data.toList] = 46 := pt_get _ hpl
    have hno : NoPoint s (pt s.data.toList) := fun j h hj => pt_lt _ j hj (by rw [len_eq]; exact h)
    have hdat : (s.extract (pt s.data.toList + 1) s.size).data.toList = s.data.toList.drop (pt s.data.toList + 1) := Lib.extract_to_end _ _
    have hdat0 : (s.extract 0 (pt s.data.toList)).data.toList = s.data.toList.take (pt s.data.toList) := by rw [Lib.extract_data]; simp
    have K := Lib.hid (fun w1 => ksplitT s w1 hs (pt s.data.toList) hp h46 hno _ _ rfl rfl)
    have hsz0 : (s.extract 0 (pt s.data.toList)).size ≤ 140737488355328 := by rw [ByteArray.size_extract]; omega
    have hsz : (s.extract (pt s.data.toList + 1) s.size).size = (s.data.toList.drop (pt s.data.toList + 1)).length := by rw [← hdat, len_eq]
    by_cases hb : badTail (s.data.toList.drop (pt s.data.toList + 1))
    · have HR : Hid (milE s.data.toList = 3 ∧ milV s.data.toList = 0) := Lib.hid (mil_bad hpl hb)
      generalize s.extract 0 (pt s.data.toList) = h at *
      generalize s.extract (pt s.data.toList + 1) s.size = t at *
      rw [← hdat] at hb
      have hub : decide ((t.size : Int) < 1) = true ∨ (decide ((t.size : Int) < 1) = false ∧ decide ((3 : Int) < t.size) = true) ∨ (decide ((t.size : Int) < 1) = false ∧ decide ((3 : Int) < t.size) = false ∧ ∃ h : t.size - 1 < t.size, ((t[t.size - 1].toNat : Int) == 48) = true ∧ 1 ≤ t.size ∧ t.size ≤ 3) := by
        rcases badTail_cases t hb with h1 | h1 | ⟨h1, h2, h3, h4⟩
        · exact .inl (decT (by omega))
        · exact .inr (.inl ⟨decF (by omega), decT (by omega)⟩)
        · exact .inr (.inr ⟨decF (by omega), decF (by omega), h3, beqT (by rw [h4]; rfl), h1, h2⟩)
      clear hb hdat hdat0 hpl h46 hno hp hsz
      rcases hub with e1 | ⟨e1, e2⟩ | ⟨e1, e2, e3, e4, e5, e6⟩
      all_goals
        go_enter Try.func22, Try.ntmps22
        go_wp2_with fail
        refine (K.out _).mono ?_
        rintro e w1 ⟨rfl, n0, rfl⟩
        go_wp2_with fail
        go_ret2
        exact ⟨ret2 HR.out.2.symm HR.out.1.symm, _, rfl⟩
    · have HR := mil_good hpl hb
      rw [HR.1, HR.2, ← hdat, ← hdat0]
      rw [← hdat] at hb
      obtain ⟨g1, g2, g3, g4⟩ := goodTail _ hb
      exact kMilli_core s w _ _ true hsz0 g2 K (.inr ⟨rfl, g1, g2, g3, g4⟩)
  · have hpl : ¬ pt s.data.toList < s.data.toList.length := by rw [len_eq]; exact hp
    have HR := mil_none hpl
    rw [HR.1, HR.2]
    have hno : NoPoint s s.size := fun j h hj => pt_lt _ j (by have := hpl; rw [len_eq] at this; omega) (by rw [len_eq]; exact h)
    have K := Lib.hid (fun w1 => ksplitF s w1 hs hno)
    exact kMilli_core s w s ⟨#[]⟩ false hs (by decide) K (.inl ⟨rfl, rfl⟩)
end Go.Proofs.Ytglihjdbbpohlaa.W
