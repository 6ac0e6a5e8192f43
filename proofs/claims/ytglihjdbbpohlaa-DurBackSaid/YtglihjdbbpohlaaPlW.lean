/- Plain laws of DurBack: a span's text is read as that span. -/
import Derived.Test.YtglihjdbbpohlaaPlV
namespace Go.Proofs.Ytglihjdbbpohlaa.Pl

/-- what stands behind a group: nothing, or a digit -/
def Dst (r : List UInt8) : Prop := r = [] ∨ ∃ c t, r = c :: t ∧ isDig c = true
theorem dec_cons (n : Nat) : ∃ c t, dec n = c :: t ∧ isDig c = true := by
  cases hx : dec n with
  | nil => have := dec_len_pos n; rw [hx] at this; exact absurd this (by decide)
  | cons c t =>
    have hd := allDig_dec n
    rw [hx] at hd
    unfold allDig at hd
    simp only [List.all_cons, Bool.and_eq_true] at hd
    exact ⟨c, t, rfl, hd.1⟩
theorem Dst_grp (k : Nat) (u r : List UInt8) (h : Dst r) : Dst (grp k u ++ r) := by
  unfold grp
  split
  · simpa using h
  · obtain ⟨c, t, hc, hd⟩ := dec_cons k
    rw [hc]; exact .inr ⟨c, _, rfl, hd⟩
theorem Dst_tl3 (v : Nat) : Dst (tl3 v) := by
  have := Dst_grp v [109, 115] [] (.inl rfl)
  rw [List.append_nil] at this; exact this
theorem Dst_tl2 (v : Nat) : Dst (tl2 v) := Dst_grp _ _ _ (Dst_tl3 _)
theorem Dst_tl1 (v : Nat) : Dst (tl1 v) := Dst_grp _ _ _ (Dst_tl2 _)
theorem Dst_head {r : List UInt8} (h : Dst r) : r.headD 0 ≠ 115 := by
  rcases h with rfl | ⟨c, t, rfl, hd⟩
  · decide
  · intro e
    have e' : c = 115 := e
    rw [e'] at hd; exact absurd hd (by decide)
/-- the units' bytes -/
def uB (p : Nat) : List UInt8 := if p = 1 then [104] else if p = 2 then [109] else if p = 3 then [115] else [109, 115]
def uL (p : Nat) : Nat := if p = 1 then 3600000 else if p = 2 then 60000 else if p = 3 then 1000 else 1
theorem uD_app {p : Nat} (hp : 1 ≤ p) (hp4 : p ≤ 4) {r : List UInt8} (hr : Dst r) : uD (uB p ++ r) = some (p, uL p, (uB p).length) := by
  have h := Dst_head hr
  rcases (show p = 1 ∨ p = 2 ∨ p = 3 ∨ p = 4 by omega) with rfl | rfl | rfl | rfl
  · rfl
  · show (if r.headD 0 = 115 then some (4, 1, 2) else some (2, 60000, 1)) = some (2, 60000, 1)
    exact if_neg h
  · rfl
  · rfl
theorem uB_head (p : Nat) : ∃ c t, uB p = c :: t ∧ isDig c = false := by
  unfold uB
  split
  · exact ⟨_, _, rfl, by decide⟩
  · split
    · exact ⟨_, _, rfl, by decide⟩
    · split
      · exact ⟨_, _, rfl, by decide⟩
      · exact ⟨_, _, rfl, by decide⟩
/-- one group of a text is read -/
theorem durF_grp {f k p last T : Nat} {r : List UInt8} (hp : 1 ≤ p) (hp4 : p ≤ 4) (hl : last < p) (hk : k ≠ 0) (hr : Dst r) :
    durF (f + 1) (dec k ++ (uB p ++ r)) last T = if r = [] then some (T + k * uL p) else durF f r p (T + k * uL p) := by
  obtain ⟨c, t, hc, hd⟩ := uB_head p
  have hlead : lead (dec k ++ (uB p ++ r)) = (dec k).length := lead_app (dec k) (uB p ++ r) (allDig_dec k) (.inr ⟨c, t ++ r, by rw [hc]; rfl, hd⟩)
  have htake : (dec k ++ (uB p ++ r)).take (lead (dec k ++ (uB p ++ r))) = dec k := by rw [hlead]; simp
  have hdrop : (dec k ++ (uB p ++ r)).drop (lead (dec k ++ (uB p ++ r))) = uB p ++ r := by rw [hlead]; simp
  have hrest : (dec k ++ (uB p ++ r)).drop (lead (dec k ++ (uB p ++ r)) + (uB p).length) = r := by
    rw [← List.drop_drop, hdrop]; simp
  have hu : uD ((dec k ++ (uB p ++ r)).drop (lead (dec k ++ (uB p ++ r)))) = some (p, uL p, (uB p).length) := by rw [hdrop]; exact uD_app hp hp4 hr
  have hw : wholeB ((dec k ++ (uB p ++ r)).take (lead (dec k ++ (uB p ++ r)))) = true := by rw [htake]; exact wholeB_dec k
  have hv : val ((dec k ++ (uB p ++ r)).take (lead (dec k ++ (uB p ++ r)))) = k := by rw [htake, val_dec]
  by_cases h0 : r = []
  · rw [if_pos h0, durF_end hu hw hl (.inl (by rw [hv]; exact hk)) (by rw [hrest]; exact h0), hv]
  · rw [if_neg h0, durF_go hu hw hl (by rw [hv]; exact hk) (by rw [hrest]; exact h0), hv, hrest]
theorem grp_nil {k : Nat} {u : List UInt8} (h : grp k u = []) : k = 0 := by
  unfold grp at h
  split at h
  · assumption
  · have := dec_len_pos k
    have h2 := congrArg List.length h
    rw [List.length_append, List.length_nil] at h2; omega
/-- the rest of a text, read from the p-th unit on -/
theorem read_grp {f k p last T : Nat} {r : List UInt8} (hp : 1 ≤ p) (hp4 : p ≤ 4) (hl : last < p) (hr : Dst r) :
    (grp k (uB p) ++ r = [] ∧ k = 0 ∧ r = []) ∨ (k = 0 ∧ r ≠ [] ∧ grp k (uB p) ++ r = r) ∨ (k ≠ 0 ∧ durF (f + 1) (grp k (uB p) ++ r) last T = if r = [] then some (T + k * uL p) else durF f r p (T + k * uL p)) := by
  by_cases hk : k = 0
  · have hg : grp k (uB p) = [] := grp_zero _ hk
    by_cases h0 : r = []
    · exact .inl ⟨by rw [hg, h0]; rfl, hk, h0⟩
    · exact .inr (.inl ⟨hk, h0, by rw [hg]; rfl⟩)
  · refine .inr (.inr ⟨hk, ?_⟩)
    rw [grp_pos _ hk, List.append_assoc]
    exact durF_grp hp hp4 hl hk hr

theorem read3 (f v last T : Nat) (hl : last < 4) (hne : tl3 v ≠ []) : durF (f + 1) (tl3 v) last T = some (T + v) := by
  rcases read_grp (f := f) (k := v) (p := 4) (last := last) (T := T) (r := []) (by omega) (by omega) hl (.inl rfl) with ⟨h, _⟩ | ⟨_, h, _⟩ | ⟨_, h⟩
  · exact absurd (by rw [List.append_nil] at h; exact h) hne
  · exact absurd rfl h
  · rw [List.append_nil, if_pos rfl] at h
    have : uL 4 = 1 := rfl
    rw [this, Nat.mul_one] at h; exact h
theorem tl3_nil {v : Nat} (h : tl3 v = []) : v = 0 := grp_nil h
theorem read2 (f v last T : Nat) (hl : last < 3) (hne : tl2 v ≠ []) : durF (f + 2) (tl2 v) last T = some (T + v) := by
  rcases read_grp (f := f + 1) (k := v / 1000) (p := 3) (last := last) (T := T) (r := tl3 (v % 1000)) (by omega) (by omega) hl (Dst_tl3 _) with ⟨h, _⟩ | ⟨h0, h1, h2⟩ | ⟨h0, h⟩
  · exact absurd h hne
  · have e : tl2 v = tl3 (v % 1000) := h2
    rw [e, read3 (f + 1) _ _ _ (by omega) h1, show v % 1000 = v by omega]
  · have e : tl2 v = grp (v / 1000) (uB 3) ++ tl3 (v % 1000) := rfl
    rw [e, h]
    have hu : uL 3 = 1000 := rfl
    by_cases hr : tl3 (v % 1000) = []
    · rw [if_pos hr, hu]
      have := tl3_nil hr
      congr 1; omega
    · rw [if_neg hr, read3 f _ _ _ (by omega) hr, hu]
      congr 1; omega
theorem tl2_nil {v : Nat} (h : tl2 v = []) : v = 0 := by
  have h' := List.append_eq_nil_iff.1 h
  have h1 := grp_nil h'.1
  have h2 := tl3_nil h'.2
  omega
theorem read1 (f v last T : Nat) (hl : last < 2) (hne : tl1 v ≠ []) : durF (f + 3) (tl1 v) last T = some (T + v) := by
  rcases read_grp (f := f + 2) (k := v / 60000) (p := 2) (last := last) (T := T) (r := tl2 (v % 60000)) (by omega) (by omega) hl (Dst_tl2 _) with ⟨h, _⟩ | ⟨h0, h1, h2⟩ | ⟨h0, h⟩
  · exact absurd h hne
  · have e : tl1 v = tl2 (v % 60000) := h2
    rw [e, read2 (f + 1) _ _ _ (by omega) h1, show v % 60000 = v by omega]
  · have e : tl1 v = grp (v / 60000) (uB 2) ++ tl2 (v % 60000) := rfl
    rw [e, h]
    have hu : uL 2 = 60000 := rfl
    by_cases hr : tl2 (v % 60000) = []
    · rw [if_pos hr, hu]
      have := tl2_nil hr
      congr 1; omega
    · rw [if_neg hr, read2 f _ _ _ (by omega) hr, hu]
      congr 1; omega
theorem tl1_nil {v : Nat} (h : tl1 v = []) : v = 0 := by
  have h' := List.append_eq_nil_iff.1 h
  have h1 := grp_nil h'.1
  have h2 := tl2_nil h'.2
  omega
theorem read0 (f v T : Nat) (hne : tl0 v ≠ []) : durF (f + 4) (tl0 v) 0 T = some (T + v) := by
  rcases read_grp (f := f + 3) (k := v / 3600000) (p := 1) (last := 0) (T := T) (r := tl1 (v % 3600000)) (by omega) (by omega) (by omega) (Dst_tl1 _) with ⟨h, _⟩ | ⟨h0, h1, h2⟩ | ⟨h0, h⟩
  · exact absurd h hne
  · have e : tl0 v = tl1 (v % 3600000) := h2
    rw [e, read1 (f + 1) _ _ _ (by omega) h1, show v % 3600000 = v by omega]
  · have e : tl0 v = grp (v / 3600000) (uB 1) ++ tl1 (v % 3600000) := rfl
    rw [e, h]
    have hu : uL 1 = 3600000 := rfl
    by_cases hr : tl1 (v % 3600000) = []
    · rw [if_pos hr, hu]
      have := tl1_nil hr
      congr 1; omega
    · rw [if_neg hr, read1 f _ _ _ (by omega) hr, hu]
      congr 1; omega
theorem tl0_nil {v : Nat} (h : tl0 v = []) : v = 0 := by
  have h' := List.append_eq_nil_iff.1 h
  have h1 := grp_nil h'.1
  have h2 := tl1_nil h'.2
  omega
/-- a span's text is read as that span -/
theorem dur_back {n : Int} (h0 : 0 ≤ n) (h : n ≤ 1099511627776) : durE (durT n) = 0 ∧ durV (durT n) = n := by
  obtain ⟨m, rfl⟩ : ∃ m : Nat, n = (m : Int) := ⟨n.toNat, by omega⟩
  by_cases hm : m = 0
  · subst hm; decide
  · rw [durT_pos hm (by omega)]
    have hne : tl0 m ≠ [] := fun e => hm (tl0_nil e)
    have := read0 1 m 0 hne
    have h2 : durO (tl0 m) = some m := by unfold durO; rw [show (5 : Nat) = 1 + 4 from rfl, this]; simp
    have := dur_ok h2 (by omega)
    exact this
theorem dur_out {n : Int} (h : n < 0 ∨ 1099511627776 < n) : durE (durT n) = 3 := by rw [durT_out h]; decide
/-- two spans have two texts -/
theorem durT_inj {n m : Int} (h0 : 0 ≤ n) (h : n ≤ 1099511627776) (h0' : 0 ≤ m) (h' : m ≤ 1099511627776) (e : durT n = durT m) : n = m := by
  have h1 := (dur_back h0 h).2
  have h2 := (dur_back h0' h').2
  rw [← h1, e, h2]
theorem durV_bd (l : List UInt8) : 0 ≤ durV l ∧ durV l ≤ 1099511627776 := by
  unfold durV
  split
  · omega
  · split <;> omega
theorem durV_err {l : List UInt8} (h : durE l ≠ 0) : durV l = 0 := by
  unfold durE at h
  unfold durV
  split
  · rfl
  · rename_i T hT
    rw [hT] at h
    by_cases h2 : 1099511627776 < T
    · simp [h2]
    · exact absurd (by simp [h2]) h
theorem durT_len (n : Int) : (durT n).length ≤ 70 := by
  by_cases h : n < 0 ∨ 1099511627776 < n
  · rw [durT_out h]; decide
  · obtain ⟨m, rfl⟩ : ∃ m : Nat, n = (m : Int) := ⟨n.toNat, by omega⟩
    by_cases hm : m = 0
    · subst hm; decide
    · rw [durT_pos hm (by omega)]
      have hg : ∀ k u, k ≤ 1099511627776 → (grp k u).length ≤ 13 + u.length := fun k u hk => by
        unfold grp
        split
        · simp
        · have := dec_len40 hk; simp; omega
      have h1 := hg (m / 3600000) [104] (by omega)
      have h2 := hg (m % 3600000 / 60000) [109] (by omega)
      have h3 := hg (m % 3600000 % 60000 / 1000) [115] (by omega)
      have h4 := hg (m % 3600000 % 60000 % 1000) [109, 115] (by omega)
      unfold tl0 tl1 tl2 tl3
      simp only [List.length_append]
      simp only [List.length_cons, List.length_nil] at h1 h2 h3 h4
      omega

end Go.Proofs.Ytglihjdbbpohlaa.Pl
