/- Plain laws on the decimal text of a number; no program in sight. -/
import Derived.Test.YtcphneofdjelpaaPl
namespace Go.Proofs.Ytcphneofdjelpaa.Pl

/-- the bytes as a string -/
def bs (l : List UInt8) : ByteArray := ⟨l.toArray⟩
theorem bs_data (l : List UInt8) : (bs l).data.toList = l := rfl
theorem bs_toList (l : List UInt8) : (bs l).toList = l := by rw [Lib.toList_data]; rfl
theorem bs_size (l : List UInt8) : (bs l).size = l.length := by unfold bs ByteArray.size; simp
theorem bs_of (s : ByteArray) : bs s.data.toList = s := Lib.mk_data s
theorem bs_append (a b : List UInt8) : bs a ++ bs b = bs (a ++ b) := by
  have : ∀ s : ByteArray, ∀ l, s.data.toList = l → s = bs l := fun s l h => by rw [← h, bs_of]
  exact this _ _ (by simp [bs])
theorem bs_inj {a b : List UInt8} : bs a = bs b ↔ a = b := ⟨fun h => by rw [← bs_data a, h, bs_data], fun h => by rw [h]⟩

/-- a digit's byte -/
def dgt (n : Nat) : UInt8 := UInt8.ofNat (48 + n % 10)
theorem dgt_toNat (n : Nat) : (dgt n).toNat = 48 + n % 10 := by unfold dgt; rw [UInt8.toNat_ofNat']; omega
theorem dgt_isDig (n : Nat) : isDig (dgt n) = true := by rw [isDig_iff, dgt_toNat]; omega
theorem dgt_of (c : UInt8) (h : isDig c = true) (n : Nat) : dgt (n * 10 + (c.toNat - 48)) = c := by
  rw [isDig_iff] at h
  apply UInt8.toNat_inj.1
  rw [dgt_toNat]; omega

def decF : Nat → Nat → List UInt8
  | 0, n => [dgt n]
  | f + 1, n => if n < 10 then [dgt n] else decF f (n / 10) ++ [dgt n]
/-- the decimal text of a number from 0 on -/
def dec (n : Nat) : List UInt8 := decF n n
theorem decF_eq : ∀ (f g n : Nat), n ≤ f → n ≤ g → decF f n = decF g n
  | 0, 0, n, _, _ => rfl
  | 0, g + 1, n, h, _ => by simp only [decF]; rw [if_pos (by omega)]
  | f + 1, 0, n, _, h => by simp only [decF]; rw [if_pos (by omega)]
  | f + 1, g + 1, n, h, h' => by
    simp only [decF]
    by_cases hn : n < 10
    · rw [if_pos hn, if_pos hn]
    · rw [if_neg hn, if_neg hn, decF_eq f g (n / 10) (by omega) (by omega)]
theorem dec_lt {n : Nat} (h : n < 10) : dec n = [dgt n] := by
  unfold dec
  cases n with
  | zero => rfl
  | succ m => simp only [decF]; rw [if_pos h]
theorem dec_ge {n : Nat} (h : 10 ≤ n) : dec n = dec (n / 10) ++ [dgt n] := by
  unfold dec
  obtain ⟨m, rfl⟩ : ∃ m, n = m + 1 := ⟨n - 1, by omega⟩
  simp only [decF]
  rw [if_neg (by omega), decF_eq m ((m + 1) / 10) _ (by omega) (by omega)]
theorem dec_ind {P : Nat → Prop} (h0 : ∀ n, n < 10 → P n) (h1 : ∀ n, 10 ≤ n → P (n / 10) → P n) : ∀ n, P n := by
  intro n
  induction n using Nat.strongRecOn with
  | _ n ih =>
    by_cases h : n < 10
    · exact h0 n h
    · exact h1 n (by omega) (ih (n / 10) (by omega))
theorem dec_len_pos (n : Nat) : 0 < (dec n).length := by
  by_cases h : n < 10
  · rw [dec_lt h]; simp
  · rw [dec_ge (by omega)]; simp
theorem dec_len_le : ∀ (k n : Nat), n < 10 ^ k → 0 < k → (dec n).length ≤ k
  | 0, n, _, h => absurd h (by decide)
  | 1, n, h, _ => by rw [dec_lt (by simpa using h)]; simp
  | k + 2, n, h, _ => by
    by_cases hn : n < 10
    · rw [dec_lt hn]; simp
    · rw [dec_ge (by omega), List.length_append, List.length_singleton]
      have := dec_len_le (k + 1) (n / 10) (by rw [Nat.pow_succ] at h; exact Nat.div_lt_of_lt_mul (by rw [Nat.mul_comm]; exact h)) (by omega)
      omega
theorem val_dec : ∀ n, val (dec n) = n := by
  apply dec_ind
  · intro n h; rw [dec_lt h]; show 0 * 10 + ((dgt n).toNat - 48) = n; rw [dgt_toNat]; omega
  · intro n h ih; rw [dec_ge h, val_snoc, ih, dgt_toNat]; omega
theorem allDig_dec : ∀ n, allDig (dec n) = true := by
  apply dec_ind
  · intro n h; rw [dec_lt h]; unfold allDig; simp [dgt_isDig]
  · intro n h ih; rw [dec_ge h, allDig_snoc, ih, dgt_isDig]; rfl
/-- no leading zero -/
theorem dec_head : ∀ n, 0 < n → ∃ c r, dec n = c :: r ∧ 49 ≤ c.toNat := by
  apply dec_ind
  · intro n h h0; exact ⟨_, _, dec_lt h, by rw [dgt_toNat]; omega⟩
  · intro n h ih _
    obtain ⟨c, r, hr, hc⟩ := ih (by omega)
    exact ⟨c, r ++ [dgt n], by rw [dec_ge h, hr]; rfl, hc⟩
theorem wholeB_of_head {c : UInt8} {r : List UInt8} (h : 49 ≤ c.toNat) (hd : allDig (c :: r) = true) : wholeB (c :: r) = true := by
  unfold wholeB
  have h0 : (c == 48) = false := by
    rw [beq_eq_false_iff_ne]; rintro rfl; exact absurd h (by decide)
  simp only [List.headD_cons, h0, hd]; simp
theorem wholeB_dec (n : Nat) : wholeB (dec n) = true := by
  by_cases h : 0 < n
  · obtain ⟨c, r, hr, hc⟩ := dec_head n h
    rw [hr]; exact wholeB_of_head hc (by rw [← hr]; exact allDig_dec n)
  · obtain rfl : n = 0 := by omega
    decide
theorem val_pos_of_head {c : UInt8} {r : List UInt8} (h : 49 ≤ c.toNat) : 0 < val (c :: r) :=
  Nat.lt_of_lt_of_le (Nat.pow_pos (by omega)) (val_ge_pow c r h)
/-- a text of a number is the text of its number -/
theorem dec_val_head : ∀ l : List UInt8, allDig l = true → (∃ c r, l = c :: r ∧ 49 ≤ c.toNat) → dec (val l) = l := by
  refine snoc_ind (P := fun l => allDig l = true → (∃ c r, l = c :: r ∧ 49 ≤ c.toNat) → dec (val l) = l) ?_ ?_
  · rintro _ ⟨c, r, h, _⟩; exact absurd h (by simp)
  · intro l c ih hd hh
    rw [allDig_snoc, Bool.and_eq_true] at hd
    rw [val_snoc]
    cases l with
    | nil =>
      obtain ⟨c', r, h, hc⟩ := hh
      simp only [List.nil_append, List.cons.injEq] at h
      obtain ⟨rfl, rfl⟩ := h
      have := (isDig_iff c).1 hd.2
      rw [show val [] * 10 + (c.toNat - 48) = c.toNat - 48 by simp [val_nil], dec_lt (by omega)]
      have := dgt_of c hd.2 0
      simp only [Nat.zero_mul, Nat.zero_add] at this
      rw [this]; rfl
    | cons d r =>
      obtain ⟨c', r', h, hc⟩ := hh
      simp only [List.cons_append, List.cons.injEq] at h
      obtain ⟨rfl, _⟩ := h
      have hp := val_pos_of_head (r := r) hc
      have h1 := ih hd.1 ⟨d, r, rfl, hc⟩
      have h2 := (isDig_iff c).1 hd.2
      rw [dec_ge (by omega), dgt_of c hd.2]
      rw [show (val (d :: r) * 10 + (c.toNat - 48)) / 10 = val (d :: r) by omega, h1]
theorem dec_val {l : List UInt8} (h : wholeB l = true) : dec (val l) = l := by
  have hd := wholeB_dig h
  cases l with
  | nil => exact absurd h (by decide)
  | cons c r =>
    rcases wholeB_cons h with rfl | hc
    · unfold allDig at hd
      simp only [List.all_cons, List.all_nil, Bool.and_true] at hd
      have h2 := (isDig_iff c).1 hd
      have := dgt_of c hd 0
      simp only [Nat.zero_mul, Nat.zero_add] at this
      rw [show val [c] = c.toNat - 48 by show 0 * 10 + (c.toNat - 48) = _; omega, dec_lt (by omega), this]
    · exact dec_val_head _ hd ⟨c, r, rfl, hc⟩

/-- the text of any number -/
def txt (n : Int) : List UInt8 := if n < 0 then 45 :: dec (-n).toNat else dec n.toNat
theorem txt_neg {n : Int} (h : n < 0) : txt n = 45 :: dec (-n).toNat := by unfold txt; rw [if_pos h]
theorem txt_pos {n : Int} (h : 0 ≤ n) : txt n = dec n.toNat := by unfold txt; rw [if_neg (by omega)]
theorem txt_len {n : Int} (h1 : -9223372036854775808 ≤ n) (h2 : n ≤ 9223372036854775807) : (txt n).length ≤ 20 := by
  have h3 : ∀ m : Nat, m < 10000000000000000000 → (dec m).length ≤ 19 := fun m hm => dec_len_le 19 m (by exact hm) (by decide)
  by_cases h : n < 0
  · rw [txt_neg h, List.length_cons]; have := h3 (-n).toNat (by omega); omega
  · rw [txt_pos (by omega)]; have := h3 n.toNat (by omega); omega

end Go.Proofs.Ytcphneofdjelpaa.Pl
