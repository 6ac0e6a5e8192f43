/- Plain laws: what is written is read as it was, and what is read is written as it was. -/
import Derived.Test.YtglihjdbbpohlaaPlD2
import Derived.Test.YtglihjdbbpohlaaPlS2
namespace Go.Proofs.Ytglihjdbbpohlaa.Pl

theorem dec_head_ne (n : Nat) : (dec n).headD 0 ≠ 45 := by
  have hd := allDig_dec n
  cases hx : dec n with
  | nil => have := dec_len_pos n; rw [hx] at this; exact absurd this (by decide)
  | cons c r =>
    rw [hx] at hd
    unfold allDig at hd
    simp only [List.all_cons, Bool.and_eq_true] at hd
    have h1 := (isDig_iff c).1 hd.1
    intro e
    have e' : c = 45 := e
    rw [e'] at h1; exact absurd h1.1 (by decide)
theorem prs_near {n : Int} (h1 : -9007199254740992 ≤ n) (h2 : n ≤ 9007199254740992) : prsE (txt n) = 0 ∧ prsV (txt n) = n := by
  by_cases h : n < 0
  · rw [txt_neg h, prsE_neg rfl, prsV_neg rfl, List.tail_cons]
    have hv : (val (dec (-n).toNat) : Int) ≤ 9007199254740992 := by rw [val_dec]; omega
    rw [cntE_ok (wholeB_dec _) hv, cntV_ok (wholeB_dec _) hv, val_dec]
    rw [if_neg (by omega)]; exact ⟨rfl, by omega⟩
  · rw [txt_pos (by omega), prsE_pos (dec_head_ne _), prsV_pos (dec_head_ne _)]
    have hv : (val (dec n.toNat) : Int) ≤ 9007199254740992 := by rw [val_dec]; omega
    rw [cntE_ok (wholeB_dec _) hv, cntV_ok (wholeB_dec _) hv, val_dec]
    exact ⟨rfl, by omega⟩
theorem prs_far {n : Int} (h : n < -9007199254740992 ∨ 9007199254740992 < n) : prsE (txt n) = 9 := by
  by_cases h0 : n < 0
  · rw [txt_neg h0, prsE_neg rfl, List.tail_cons]
    have hv : (9007199254740992 : Int) < val (dec (-n).toNat) := by rw [val_dec]; omega
    rw [cntE_big (by omega) (wholeB_dec _) hv, if_neg (by omega)]
  · rw [txt_pos (by omega), prsE_pos (dec_head_ne _)]
    have hv : (9007199254740992 : Int) < val (dec n.toNat) := by rw [val_dec]; omega
    rw [cntE_big (by omega) (wholeB_dec _) hv]
theorem prs_back {s : List UInt8} (h : prsE s = 0) : txt (prsV s) = s := by
  by_cases h45 : s.headD 0 = 45
  · rw [prsE_neg h45] at h
    rw [prsV_neg h45]
    cases s with
    | nil => exact absurd h45 (by decide)
    | cons c r =>
      have e : c = 45 := h45
      subst e
      rw [List.tail_cons] at h ⊢
      by_cases hz : cntE r 9007199254740992 = 0 ∧ cntV r 9007199254740992 = 0
      · rw [if_pos hz] at h; exact absurd h (by decide)
      · rw [if_neg hz] at h
        obtain ⟨hw, hv⟩ := cnt_ok (by omega) h
        have hV := cntV_ok hw hv
        have hne : cntV r 9007199254740992 ≠ 0 := fun e => hz ⟨h, e⟩
        rw [hV] at hne ⊢
        rw [txt_neg (by omega), Int.neg_neg, Int.toNat_natCast, dec_val hw]
  · rw [prsE_pos h45] at h
    rw [prsV_pos h45]
    obtain ⟨hw, hv⟩ := cnt_ok (by omega) h
    rw [cntV_ok hw hv, txt_pos (by omega), Int.toNat_natCast, dec_val hw]

theorem pt_all {h : List UInt8} (hh : ∀ c ∈ h, c ≠ 46) : pt h = h.length := by
  induction h with
  | nil => rfl
  | cons c r ih =>
    have hc : c ≠ 46 := hh c (List.mem_cons_self)
    have := ih fun d hd => hh d (List.mem_cons_of_mem _ hd)
    unfold pt at *
    simp [hc]; simpa using this
theorem pt_app {h t : List UInt8} (hh : ∀ c ∈ h, c ≠ 46) : pt (h ++ 46 :: t) = h.length := by
  induction h with
  | nil => rfl
  | cons c r ih =>
    have hc : c ≠ 46 := hh c (List.mem_cons_self)
    have := ih fun d hd => hh d (List.mem_cons_of_mem _ hd)
    unfold pt at *
    simp [hc]; simpa using this
theorem dig_no46 {h : List UInt8} (hd : allDig h = true) : ∀ c ∈ h, c ≠ 46 := by
  intro c hc e
  unfold allDig at hd
  rw [List.all_eq_true] at hd
  have := hd c hc
  rw [e] at this; exact absurd this (by decide)
theorem mil_app {h t : List UInt8} (hd : allDig h = true) (hb : ¬ badTail t) : milE (h ++ 46 :: t) = mlE h t ∧ milV (h ++ 46 :: t) = mlV h t := by
  have hp := pt_app (t := t) (dig_no46 hd)
  have h1 : pt (h ++ 46 :: t) < (h ++ 46 :: t).length := by rw [hp]; simp
  have h2 : (h ++ 46 :: t).drop (pt (h ++ 46 :: t) + 1) = t := by rw [hp]; simp
  have h3 : (h ++ 46 :: t).take (pt (h ++ 46 :: t)) = h := by rw [hp]; simp
  have := mil_good h1 (by rw [h2]; exact hb)
  rwa [h2, h3] at this
theorem mil_whole {h : List UInt8} (hd : allDig h = true) : milE h = mlE h [] ∧ milV h = mlV h [] :=
  mil_none (by rw [pt_all (dig_no46 hd)]; omega)
theorem mpart_nil : mpart [] 3 = 0 := by decide
/-- the digits behind the point tell the thousandths -/
theorem frac_tail (p : Nat) (hp : p < 1000) (h0 : p ≠ 0) : ∃ t, frac p = 46 :: t ∧ ¬ badTail t ∧ allDig t = true ∧ mpart t 3 = p := by
  have hdg : ∀ n, isDig (dgt n) = true := dgt_isDig
  have hne : ∀ n, n % 10 ≠ 0 → dgt n ≠ 48 := fun n h e => by
    have := congrArg UInt8.toNat e
    rw [dgt_toNat] at this
    have h48 : (48 : UInt8).toNat = 48 := rfl
    omega
  rcases frac_cases p hp with ⟨h, _⟩ | ⟨_, h1, h2, h3, hf⟩ | ⟨h1, h2, hf⟩ | ⟨h1, hf⟩
  · exact absurd h h0
  · refine ⟨_, hf, ?_, by simp [allDig, hdg], ?_⟩
    · unfold badTail
      simp
      exact fun e => hne _ (by omega) e
    · rw [part_all (by simp)]; simp [val, dgt_toNat]; omega
  · refine ⟨_, hf, ?_, by simp [allDig, hdg], ?_⟩
    · unfold badTail
      simp
      exact fun e => hne _ (by omega) e
    · rw [part_all (by simp)]; simp [val, dgt_toNat]; omega
  · refine ⟨_, hf, ?_, by simp [allDig, hdg], ?_⟩
    · unfold badTail
      simp
      exact fun e => hne _ (by omega) e
    · rw [part_all (by simp)]; simp [val, dgt_toNat]; omega
theorem mil_back {n : Int} (h0 : 0 ≤ n) (h : n ≤ 9007199254740992) : milE (mtxt n) = 0 ∧ milV (mtxt n) = n := by
  obtain ⟨m, rfl⟩ : ∃ m : Nat, n = (m : Int) := ⟨n.toNat, by omega⟩
  rw [mtxt_nat]
  have hv : (val (dec (m / 1000)) : Int) ≤ 9007199254740 := by rw [val_dec]; omega
  have hE := cntE_ok (wholeB_dec (m / 1000)) hv
  have hV := cntV_ok (wholeB_dec (m / 1000)) hv
  rw [val_dec] at hV
  by_cases hp : m % 1000 = 0
  · have hf : frac (m % 1000) = [] := by rw [hp]; rfl
    rw [hf, List.append_nil]
    have h1 := mil_whole (allDig_dec (m / 1000))
    have h2 := ml_ok (h := dec (m / 1000)) (t := []) rfl hE (by rw [hV, mpart_nil]; omega)
    rw [h1.1, h1.2, h2.1, h2.2, hV, mpart_nil]
    exact ⟨rfl, by omega⟩
  · obtain ⟨t, ht, hb, hd, hq⟩ := frac_tail (m % 1000) (by omega) hp
    rw [ht]
    have h1 := mil_app (allDig_dec (m / 1000)) hb
    have h2 := ml_ok (h := dec (m / 1000)) (t := t) hd hE (by rw [hV, hq]; omega)
    rw [h1.1, h1.2, h2.1, h2.2, hV, hq]
    exact ⟨rfl, by omega⟩
set_option maxRecDepth 100000 in
/-- a tail is the fraction of what it tells -/
theorem frac_of_tail {t : List UInt8} (hb : ¬ badTail t) (hd : allDig t = true) : frac (mpart t 3) = 46 :: t ∧ mpart t 3 < 1000 := by
  have hlt : mpart t 3 < 1000 := by have := mpart_le' t hd; omega
  refine ⟨?_, hlt⟩
  have h3 : t.length ≤ 3 := by unfold badTail at hb; omega
  rw [part_all h3] at hlt ⊢
  match t, h3 with
  | [], _ => exact absurd (by unfold badTail; simp) hb
  | [a], _ =>
    unfold badTail at hb; simp at hb
    unfold allDig at hd; simp at hd
    have ha := (isDig_iff a).1 hd
    have ha' : a.toNat ≠ 48 := fun e => hb (UInt8.toNat_inj.1 e)
    simp [val] at hlt ⊢
    unfold frac
    rw [if_neg (by omega), if_pos (by omega)]
    have := dgt_of a hd 0
    rw [Nat.zero_mul, Nat.zero_add] at this
    rw [show (a.toNat - 48) * 100 / 100 = a.toNat - 48 by omega, this]
  | [a, b], _ =>
    unfold badTail at hb; simp at hb
    unfold allDig at hd; simp at hd
    have ha := (isDig_iff a).1 hd.1
    have hb2 := (isDig_iff b).1 hd.2
    have hb' : b.toNat ≠ 48 := fun e => hb (UInt8.toNat_inj.1 e)
    simp [val] at hlt ⊢
    unfold frac
    rw [if_neg (by omega), if_neg (by omega), if_pos (by omega)]
    have e1 := dgt_of a hd.1 0
    rw [Nat.zero_mul, Nat.zero_add] at e1
    have e2 := dgt_of b hd.2 (a.toNat - 48)
    rw [show ((a.toNat - 48) * 10 + (b.toNat - 48)) * 10 / 100 = a.toNat - 48 by omega, show ((a.toNat - 48) * 10 + (b.toNat - 48)) * 10 / 10 = (a.toNat - 48) * 10 + (b.toNat - 48) by omega, e1, e2]
  | [a, b, c], _ =>
    unfold badTail at hb; simp at hb
    unfold allDig at hd; simp at hd
    have ha := (isDig_iff a).1 hd.1
    have hb2 := (isDig_iff b).1 hd.2.1
    have hc2 := (isDig_iff c).1 hd.2.2
    have hb' : c.toNat ≠ 48 := fun e => hb (UInt8.toNat_inj.1 e)
    simp [val] at hlt ⊢
    unfold frac
    rw [if_neg (by omega), if_neg (by omega), if_neg (by omega)]
    have e1 := dgt_of a hd.1 0
    rw [Nat.zero_mul, Nat.zero_add] at e1
    have e2 := dgt_of b hd.2.1 (a.toNat - 48)
    have e3 := dgt_of c hd.2.2 ((a.toNat - 48) * 10 + (b.toNat - 48))
    rw [show (((a.toNat - 48) * 10 + (b.toNat - 48)) * 10 + (c.toNat - 48)) / 100 = a.toNat - 48 by omega, show (((a.toNat - 48) * 10 + (b.toNat - 48)) * 10 + (c.toNat - 48)) / 10 = (a.toNat - 48) * 10 + (b.toNat - 48) by omega, e1, e2, e3]
theorem ml_zero {h t : List UInt8} (he : mlE h t = 0) : allDig t = true ∧ wholeB h = true ∧ mlV h t = val h * 1000 + mpart t 3 := by
  by_cases hd : allDig t = true
  · by_cases hc : cntE h 9007199254740 = 0
    · obtain ⟨hw, hv⟩ := cnt_ok (by omega) hc
      have hV := cntV_ok hw hv
      by_cases ho : (9007199254740992 : Int) < cntV h 9007199254740 * 1000 + mpart t 3
      · rw [(ml_over hd hc ho).1] at he; exact absurd he (by decide)
      · rw [(ml_ok hd hc ho).2, hV]; exact ⟨hd, hw, rfl⟩
    · rw [(ml_head hd hc).1] at he; exact absurd he hc
  · rw [(ml_bad (eq_false_of_ne_true hd)).1] at he; exact absurd he (by decide)
theorem mtxt_of (q p : Nat) (hp : p < 1000) : mtxt ((q : Int) * 1000 + p) = dec q ++ frac p := by
  have : ((q : Int) * 1000 + p) = ((q * 1000 + p : Nat) : Int) := by omega
  rw [this, mtxt_nat, show (q * 1000 + p) / 1000 = q by omega, show (q * 1000 + p) % 1000 = p by omega]
theorem mil_read {s : List UInt8} (h : milE s = 0) : mtxt (milV s) = s := by
  by_cases hp : pt s < s.length
  · by_cases hb : badTail (s.drop (pt s + 1))
    · rw [(mil_bad hp hb).1] at h; exact absurd h (by decide)
    · have hg := mil_good hp hb
      rw [hg.1] at h
      obtain ⟨hd, hw, hv⟩ := ml_zero h
      obtain ⟨hf, hlt⟩ := frac_of_tail hb hd
      rw [hg.2, hv, mtxt_of _ _ hlt, dec_val hw, hf]
      have h46 := pt_get s hp
      have hs : s.drop (pt s) = 46 :: s.drop (pt s + 1) := by
        rw [List.drop_eq_getElem_cons hp, h46]
      rw [← hs, List.take_append_drop]
  · have hg := mil_none hp
    rw [hg.1] at h
    obtain ⟨_, hw, hv⟩ := ml_zero h
    rw [hg.2, hv, mtxt_of _ _ (by rw [mpart_nil]; omega), dec_val hw, mpart_nil]
    have : frac 0 = [] := rfl
    rw [this, List.append_nil]

end Go.Proofs.Ytglihjdbbpohlaa.Pl
