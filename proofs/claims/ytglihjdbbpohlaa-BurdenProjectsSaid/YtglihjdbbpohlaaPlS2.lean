/- Plain laws on the short texts of amounts: read as the amount; none is shorter. -/
import Derived.Test.YtglihjdbbpohlaaPlS
namespace Go.Proofs.Ytglihjdbbpohlaa.Pl

theorem dec_len_mono : ∀ b a, a ≤ b → (dec a).length ≤ (dec b).length := by
  apply dec_ind
  · intro n h a ha; rw [dec_lt h, dec_lt (show a < 10 by omega)]; simp
  · intro n h ih a ha
    rw [dec_ge h]
    by_cases h2 : a < 10
    · rw [dec_lt h2]; simp
    · rw [dec_ge (show 10 ≤ a by omega)]
      have := ih (a / 10) (by omega)
      simp; exact this
theorem dec_len_div {a b : Nat} (h1 : 10 ≤ b) (h2 : a ≤ b / 10) : (dec a).length + 1 ≤ (dec b).length := by
  rw [dec_ge h1]
  have := dec_len_mono (b / 10) a h2
  simp; exact this
theorem lead_app (d r : List UInt8) (hd : allDig d = true) (hr : r = [] ∨ ∃ c t, r = c :: t ∧ isDig c = false) : lead (d ++ r) = d.length := by
  refine lead_eq (by simp) (by simp [hd]) fun h => ?_
  rcases hr with rfl | ⟨c, t, rfl, hc⟩
  · simp at h
  · simpa using hc
theorem sfx_head (u : Nat) : sfx u = [] ∨ ∃ c t, sfx u = c :: t ∧ isDig c = false := by
  unfold sfx
  split
  · exact .inl rfl
  · split
    · exact .inr ⟨_, _, rfl, by decide⟩
    · split
      · exact .inr ⟨_, _, rfl, by decide⟩
      · exact .inr ⟨_, _, rfl, by decide⟩
theorem unitOf_sfx {u : Nat} (h : u ≤ 3) : unitOf (sfx u) = some u := by
  rcases (show u = 0 ∨ u = 1 ∨ u = 2 ∨ u = 3 by omega) with rfl | rfl | rfl | rfl <;> decide
theorem sfx_len {u : Nat} (h : u ≤ 3) : (sfx u).length = if u = 0 then 0 else 1 := by
  rcases (show u = 0 ∨ u = 1 ∨ u = 2 ∨ u = 3 by omega) with rfl | rfl | rfl | rfl <;> decide
theorem sz_app (q u : Nat) (hu : u ≤ 3) (hq : (q : Int) ≤ mostU u) : szE (dec q ++ sfx u) = 0 ∧ szV (dec q ++ sfx u) = q * longU u := by
  have hl := lead_app (dec q) (sfx u) (allDig_dec q) (sfx_head u)
  have hun : unitOf ((dec q ++ sfx u).drop (lead (dec q ++ sfx u))) = some u := by rw [hl]; simpa using unitOf_sfx hu
  have ht : (dec q ++ sfx u).take (lead (dec q ++ sfx u)) = dec q := by rw [hl]; simp
  rw [szE_some hun, szV_some hun, ht]
  have hv : (val (dec q) : Int) ≤ mostU u := by rw [val_dec]; exact hq
  rw [cntE_ok (wholeB_dec q) hv, cntV_ok (wholeB_dec q) hv, val_dec]
  exact ⟨rfl, rfl⟩
theorem szT_parts {n : Nat} (h : n ≤ 1125899906842624) : ∃ q u : Nat, u ≤ 3 ∧ lvl n = u ∧ szT n = dec q ++ sfx u ∧ (q : Int) * longU u = n ∧ (q : Int) ≤ mostU u := by
  rw [szT_in h]
  rcases lvl_cases n with ⟨hl, _⟩ | ⟨hl, _, h1⟩ | ⟨hl, _, h1, h2, _⟩ | ⟨hl, _, h1, h2, h3⟩
  · exact ⟨n, 0, by omega, hl, by rw [hl, show (n : Int) / longU 0 = n from Int.ediv_one _, txt_pos (by omega), Int.toNat_natCast], Int.mul_one _, by show (n : Int) ≤ 1125899906842624; omega⟩
  · refine ⟨n / 1024, 1, by omega, hl, ?_, ?_, ?_⟩
    · rw [hl, show (n : Int) / longU 1 = ((n / 1024 : Nat) : Int) from rfl, txt_pos (by omega), Int.toNat_natCast]
    · show ((n / 1024 : Nat) : Int) * 1024 = n; omega
    · show ((n / 1024 : Nat) : Int) ≤ 1099511627776; omega
  · refine ⟨n / 1048576, 2, by omega, hl, ?_, ?_, ?_⟩
    · rw [hl, show (n : Int) / longU 2 = ((n / 1048576 : Nat) : Int) from rfl, txt_pos (by omega), Int.toNat_natCast]
    · show ((n / 1048576 : Nat) : Int) * 1048576 = n; omega
    · show ((n / 1048576 : Nat) : Int) ≤ 1073741824; omega
  · refine ⟨n / 1073741824, 3, by omega, hl, ?_, ?_, ?_⟩
    · rw [hl, show (n : Int) / longU 3 = ((n / 1073741824 : Nat) : Int) from rfl, txt_pos (by omega), Int.toNat_natCast]
    · show ((n / 1073741824 : Nat) : Int) * 1073741824 = n; omega
    · show ((n / 1073741824 : Nat) : Int) ≤ 1048576; omega
/-- the short text of an amount is read as that amount -/
theorem sz_back {n : Int} (h0 : 0 ≤ n) (h : n ≤ 1125899906842624) : szE (szT n) = 0 ∧ szV (szT n) = n := by
  obtain ⟨m, rfl⟩ : ∃ m : Nat, n = (m : Int) := ⟨n.toNat, by omega⟩
  obtain ⟨q, u, hu, _, ht, hq, hm⟩ := szT_parts (n := m) (by omega)
  rw [ht]
  have := sz_app q u hu hm
  rw [this.1, this.2, hq]
  exact ⟨rfl, rfl⟩
theorem unit_len {l : List UInt8} {u : Nat} (h : unitOf l = some u) : (if u = 0 then 0 else 1) ≤ l.length := by
  rcases unitOf_some h with ⟨rfl, rfl⟩ | ⟨rfl, rfl⟩ | ⟨rfl, rfl⟩ | ⟨rfl, rfl⟩ | ⟨rfl, rfl⟩ | ⟨rfl, rfl⟩ | ⟨rfl, rfl⟩ | ⟨rfl, rfl⟩ <;> simp
theorem cnt_ok {l : List UInt8} {m : Int} (h0 : 0 ≤ m) (h : cntE l m = 0) : wholeB l = true ∧ (val l : Int) ≤ m := by
  by_cases hw : wholeB l = true
  · refine ⟨hw, ?_⟩
    by_cases hv : m < val l
    · rw [cntE_big h0 hw hv] at h; exact absurd h (by decide)
    · omega
  · rw [cntE_bad h0 (eq_false_of_ne_true hw)] at h; exact absurd h (by decide)
theorem longU_nn (u : Nat) : 0 ≤ longU u := by unfold longU; split <;> (try split) <;> (try split) <;> omega
theorem mostU_nn (u : Nat) : 0 ≤ mostU u := by unfold mostU; split <;> (try split) <;> (try split) <;> omega
/-- no text that is read as an amount is shorter than its short text -/
theorem sz_short {l : List UInt8} (h : szE l = 0) : (szT (szV l)).length ≤ l.length := by
  cases hun : unitOf (l.drop (lead l)) with
  | none => rw [szE_none hun] at h; exact absurd h (by decide)
  | some u =>
    rw [szE_some hun] at h
    obtain ⟨hw, hv⟩ := cnt_ok (mostU_nn u) h
    rw [szV_some hun, cntV_ok hw hv]
    have hlen : l.length = (l.take (lead l)).length + (l.drop (lead l)).length := by
      rw [← List.length_append, List.take_append_drop]
    have hul := unit_len hun
    have hu3 := unitOf_le hun
    have hd := dec_val hw
    generalize l.take (lead l) = d at *
    generalize l.drop (lead l) = r at *
    generalize val d = v at *
    rw [← hd] at hlen
    rw [hlen]
    by_cases hv0 : v = 0
    · subst hv0
      have : (szT (((0 : Nat) : Int) * longU u)).length = 1 := by rw [show ((0 : Nat) : Int) * longU u = 0 by simp]; decide
      have := dec_len_pos 0
      omega
    · obtain ⟨n, hn⟩ : ∃ n : Nat, (n : Int) = (v : Int) * longU u := ⟨((v : Int) * longU u).toNat, Int.toNat_of_nonneg (Int.mul_nonneg (by omega) (longU_nn u))⟩
      rw [← hn]
      rcases (show u = 0 ∨ u = 1 ∨ u = 2 ∨ u = 3 by omega) with rfl | rfl | rfl | rfl
      all_goals
        simp only [longU, mostU] at hn hv
        simp at hn hv
        obtain ⟨q, t, ht3, hl, ht, hq, _⟩ := szT_parts (n := n) (by omega)
        rw [ht, List.length_append, sfx_len ht3]
        rcases (show t = 0 ∨ t = 1 ∨ t = 2 ∨ t = 3 by omega) with rfl | rfl | rfl | rfl
        all_goals
          simp only [longU] at hq
          simp at hq hul ⊢
          rcases lvl_cases n with ⟨hl', hc⟩ | ⟨hl', hc⟩ | ⟨hl', hc⟩ | ⟨hl', hc⟩
          all_goals
            rw [hl] at hl'
            by_cases hqv : q = v
            · subst hqv; omega
            · by_cases hcase : 10 ≤ v ∧ q ≤ v / 10
              · have := dec_len_div hcase.1 hcase.2
                omega
              · exfalso; omega

end Go.Proofs.Ytglihjdbbpohlaa.Pl
