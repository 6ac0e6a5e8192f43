/- Plain laws on lists of bytes and decimal numbers; no program in sight. -/
import Derived.Lib.Strings
namespace Go.Proofs.Ytcphneofdjelpaa.Pl

/-- is the byte a decimal digit? -/
def isDig (c : UInt8) : Bool := decide (48 ≤ c.toNat ∧ c.toNat ≤ 57)
/-- digits alone -/
def allDig (l : List UInt8) : Bool := l.all isDig
/-- the text of a number from 0 on, without leading zeros -/
def wholeB (l : List UInt8) : Bool := !l.isEmpty && !(decide (1 < l.length) && (l.headD 0 == 48)) && allDig l
/-- the number that digits tell -/
def val (l : List UInt8) : Nat := l.foldl (fun n c => n * 10 + (c.toNat - 48)) 0

theorem isDig_iff (c : UInt8) : isDig c = true ↔ 48 ≤ c.toNat ∧ c.toNat ≤ 57 := by unfold isDig; simp
theorem isDig_false (c : UInt8) : isDig c = false ↔ (c.toNat < 48 ∨ 57 < c.toNat) := by unfold isDig; simp; omega

theorem val_nil : val [] = 0 := rfl
theorem val_snoc (l : List UInt8) (c : UInt8) : val (l ++ [c]) = val l * 10 + (c.toNat - 48) := by unfold val; simp
theorem allDig_nil : allDig [] = true := rfl
theorem allDig_snoc (l : List UInt8) (c : UInt8) : allDig (l ++ [c]) = (allDig l && isDig c) := by unfold allDig; simp

theorem take_snoc (s : ByteArray) (k : Nat) (h : k < s.size) : s.data.toList.take (k + 1) = s.data.toList.take k ++ [s[k]] := by
  rw [List.take_succ_eq_append_getElem (by simpa using h)]; rfl
theorem take_all (s : ByteArray) (k : Nat) (h : s.size ≤ k) : s.data.toList.take k = s.data.toList :=
  List.take_of_length_le (by simpa using h)
theorem val_take (s : ByteArray) (k : Nat) (h : k < s.size) : val (s.data.toList.take (k + 1)) = val (s.data.toList.take k) * 10 + (s[k].toNat - 48) := by
  rw [take_snoc s k h, val_snoc]
theorem allDig_take (s : ByteArray) (k : Nat) (h : k < s.size) : allDig (s.data.toList.take (k + 1)) = (allDig (s.data.toList.take k) && isDig s[k]) := by
  rw [take_snoc s k h, allDig_snoc]
theorem allDig_of_take {l : List UInt8} {k : Nat} (h : allDig (l.take k) = false) : allDig l = false := by
  unfold allDig at *
  rw [← List.take_append_drop k l, List.all_append, h]; rfl
theorem val_append (a b : List UInt8) : val (a ++ b) = val a * 10 ^ b.length + val b := by
  unfold val
  rw [List.foldl_append]
  generalize List.foldl _ 0 a = n
  induction b generalizing n with
  | nil => simp
  | cons c b ih =>
    simp only [List.foldl_cons, List.length_cons]
    rw [ih, ih (0 * 10 + _)]
    rw [Nat.pow_succ]
    simp only [Nat.zero_mul, Nat.zero_add, Nat.add_mul]
    rw [Nat.mul_assoc, Nat.mul_comm 10, Nat.add_assoc]
theorem val_take_le (l : List UInt8) (k : Nat) : val (l.take k) ≤ val l := by
  have h := val_append (l.take k) (l.drop k)
  rw [List.take_append_drop] at h
  rw [h]
  have : 1 ≤ 10 ^ (l.drop k).length := Nat.one_le_pow _ _ (by omega)
  calc val (l.take k) = val (l.take k) * 1 := by omega
    _ ≤ val (l.take k) * 10 ^ (l.drop k).length := Nat.mul_le_mul_left _ this
    _ ≤ _ := by omega
theorem snoc_ind {P : List UInt8 → Prop} (h0 : P []) (hs : ∀ l c, P l → P (l ++ [c])) (l : List UInt8) : P l := by
  rw [← List.reverse_reverse l]
  induction l.reverse with
  | nil => simpa using h0
  | cons c r ih => simpa using hs _ c ih
theorem val_lt_pow (l : List UInt8) (h : allDig l = true) : val l < 10 ^ l.length := by
  revert h
  refine snoc_ind (P := fun l => allDig l = true → val l < 10 ^ l.length) (by intro _; decide) ?_ l
  intro l c ih h
  rw [allDig_snoc, Bool.and_eq_true, isDig_iff] at h
  have := ih h.1
  rw [val_snoc, List.length_append, List.length_singleton, Nat.pow_succ]
  omega

/-- Count: the number, the error -/
def cntE (l : List UInt8) (most : Int) : Int := if most < 0 then 2 else if wholeB l = false then 3 else if most < val l then 9 else 0
def cntV (l : List UInt8) (most : Int) : Int := if most < 0 then 0 else if wholeB l = false then 0 else if most < val l then 0 else val l

theorem headD_pos (s : ByteArray) (h : 0 < s.size) : s.data.toList.headD 0 = s[0] := by
  obtain ⟨⟨l⟩⟩ := s
  cases l with
  | nil => exact absurd h (by decide)
  | cons c r => rfl
theorem isEmpty_pos (s : ByteArray) (h : 0 < s.size) : s.data.toList.isEmpty = false := by
  obtain ⟨⟨l⟩⟩ := s
  cases l with
  | nil => exact absurd h (by decide)
  | cons c r => rfl
theorem len_eq (s : ByteArray) : s.data.toList.length = s.size := by simp only [Array.length_toList]; rfl
theorem empty_of_size (s : ByteArray) (h : s.size = 0) : s = ByteArray.empty := by
  obtain ⟨⟨l⟩⟩ := s
  cases l with
  | nil => rfl
  | cons c r => exact absurd h (by simp [ByteArray.size])
theorem wholeB_nil : wholeB [] = false := rfl
/-- a leading zero -/
theorem wholeB_zero (s : ByteArray) (h : 1 < s.size) (h0 : s[0].toNat = 48) : wholeB s.data.toList = false := by
  unfold wholeB
  rw [headD_pos s (by omega), len_eq]
  have : s[0] = 48 := UInt8.toNat_inj.1 h0
  rw [this]; simp; omega
/-- no leading zero -/
theorem wholeB_rest (s : ByteArray) (h : 0 < s.size) (h0 : s.size = 1 ∨ s[0].toNat ≠ 48) : wholeB s.data.toList = allDig s.data.toList := by
  unfold wholeB
  rw [headD_pos s (by omega), len_eq, isEmpty_pos s h]
  rcases h0 with h0 | h0
  · rw [h0]; simp
  · have : (s[0] == 48) = false := by rw [beq_eq_false_iff_ne]; intro e; rw [e] at h0; exact h0 rfl
    rw [this]; simp
theorem allDig_bad (s : ByteArray) (k : Nat) (h : k < s.size) (hb : isDig s[k] = false) : allDig s.data.toList = false := by
  apply allDig_of_take (k := k + 1)
  rw [allDig_take s k h, hb]; simp

/-- Value: 2^60 from 2^56 on -/
def valS (l : List UInt8) : Int := if 72057594037927936 ≤ val l then 1152921504606846976 else val l
theorem valS_small {l : List UInt8} (h : val l < 72057594037927936) : valS l = val l := by unfold valS; rw [if_neg (by omega)]
theorem valS_big {l : List UInt8} (h : 72057594037927936 ≤ val l) : valS l = 1152921504606846976 := by unfold valS; rw [if_pos h]
theorem allDig_get (s : ByteArray) (h : allDig s.data.toList = true) (k : Nat) (hk : k < s.size) : 48 ≤ s[k].toNat ∧ s[k].toNat ≤ 57 := by
  rw [← isDig_iff]
  by_cases hd : isDig s[k] = true
  · exact hd
  · rw [allDig_bad s k hk (eq_false_of_ne_true hd)] at h; exact absurd h (by decide)
theorem val_take_all_le (s : ByteArray) (k : Nat) : val (s.data.toList.take k) ≤ val s.data.toList := val_take_le _ _

theorem toList_isEmpty (s : ByteArray) (h : 0 < s.size) : s.toList.isEmpty = false := by
  rw [Lib.toList_data]; exact isEmpty_pos s h
theorem cntE_bad {l : List UInt8} {most : Int} (h0 : 0 ≤ most) (h : wholeB l = false) : cntE l most = 3 := by unfold cntE; rw [if_neg (by omega), if_pos h]
theorem cntV_bad {l : List UInt8} {most : Int} (h : wholeB l = false) : cntV l most = 0 := by unfold cntV; split <;> simp
theorem cntE_big {l : List UInt8} {most : Int} (h0 : 0 ≤ most) (h : wholeB l = true) (hv : most < val l) : cntE l most = 9 := by unfold cntE; rw [if_neg (by omega), if_neg (by simp [h]), if_pos hv]
theorem cntV_big {l : List UInt8} {most : Int} (hv : most < val l) : cntV l most = 0 := by
  unfold cntV
  simp [hv]
theorem cntE_ok {l : List UInt8} {most : Int} (h : wholeB l = true) (hv : (val l : Int) ≤ most) : cntE l most = 0 := by unfold cntE; rw [if_neg (by omega), if_neg (by simp [h]), if_neg (by omega)]
theorem cntV_ok {l : List UInt8} {most : Int} (h : wholeB l = true) (hv : (val l : Int) ≤ most) : cntV l most = val l := by unfold cntV; rw [if_neg (by omega), if_neg (by simp [h]), if_neg (by omega)]
theorem cntE_neg {l : List UInt8} {most : Int} (h : most < 0) : cntE l most = 2 := by unfold cntE; rw [if_pos h]
theorem cntV_neg {l : List UInt8} {most : Int} (h : most < 0) : cntV l most = 0 := by unfold cntV; rw [if_pos h]

theorem wholeB_dig {l : List UInt8} (h : wholeB l = true) : allDig l = true := by unfold wholeB at h; simp only [Bool.and_eq_true] at h; exact h.2
theorem wholeB_ne {l : List UInt8} (h : wholeB l = true) : l ≠ [] := by intro e; rw [e] at h; exact absurd h (by decide)
theorem val_ge_pow (c : UInt8) (r : List UInt8) (h : 49 ≤ c.toNat) : 10 ^ r.length ≤ val (c :: r) := by
  have := val_append [c] r
  rw [List.singleton_append] at this
  rw [this]
  have h1 : 1 ≤ val [c] := by show 1 ≤ 0 * 10 + (c.toNat - 48); omega
  calc 10 ^ r.length = 1 * 10 ^ r.length := by omega
    _ ≤ val [c] * 10 ^ r.length := Nat.mul_le_mul_right _ h1
    _ ≤ _ := by omega
theorem wholeB_cons {c : UInt8} {r : List UInt8} (h : wholeB (c :: r) = true) : r = [] ∨ 49 ≤ c.toNat := by
  have hd := wholeB_dig h
  unfold wholeB at h
  cases r with
  | nil => exact .inl rfl
  | cons d r =>
    right
    simp only [List.headD_cons, List.length_cons, Bool.and_eq_true, Bool.not_eq_true'] at h
    have h0 : (c == 48) = false := by
      have := h.1.2
      simpa using this
    have h1 := (isDig_iff c).1 (by unfold allDig at hd; simp only [List.all_cons, Bool.and_eq_true] at hd; exact hd.1)
    have h2 : c.toNat ≠ 48 := by
      intro e
      have : c = 48 := UInt8.toNat_inj.1 e
      rw [this] at h0; exact absurd h0 (by decide)
    omega
theorem wholeB_val_ge {l : List UInt8} (h : wholeB l = true) (h1 : 1 < l.length) : 10 ^ (l.length - 1) ≤ val l := by
  cases l with
  | nil => exact absurd h1 (by decide)
  | cons c r =>
    rcases wholeB_cons h with rfl | hc
    · exact absurd h1 (by simp)
    · simpa using val_ge_pow c r hc
theorem wholeB_long {l : List UInt8} (h : wholeB l = true) (h1 : 19 < l.length) : 10000000000000000000 ≤ val l := by
  refine Nat.le_trans ?_ (wholeB_val_ge h (by omega))
  exact (show 10000000000000000000 = 10 ^ 19 by decide) ▸ Nat.pow_le_pow_right (by omega) (by omega)
theorem val_short {l : List UInt8} (h : allDig l = true) (h1 : l.length ≤ 19) : val l < 10000000000000000000 := by
  refine Nat.lt_of_lt_of_le (val_lt_pow l h) ?_
  exact (show 10000000000000000000 = 10 ^ 19 by decide) ▸ Nat.pow_le_pow_right (by omega) h1

/-- the unit that a text is: how often 1024 -/
def unitOf (l : List UInt8) : Option Nat :=
  if l = [] ∨ l = [98] then some 0 else if l = [107] ∨ l = [107, 98] then some 1 else if l = [109] ∨ l = [109, 98] then some 2 else if l = [103] ∨ l = [103, 98] then some 3 else none
theorem unitOf_some {l : List UInt8} {u : Nat} (h : unitOf l = some u) :
    (l = [] ∧ u = 0) ∨ (l = [98] ∧ u = 0) ∨ (l = [107] ∧ u = 1) ∨ (l = [107, 98] ∧ u = 1) ∨ (l = [109] ∧ u = 2) ∨ (l = [109, 98] ∧ u = 2) ∨ (l = [103] ∧ u = 3) ∨ (l = [103, 98] ∧ u = 3) := by
  unfold unitOf at h
  by_cases h1 : l = [] ∨ l = [98]
  · rw [if_pos h1] at h; injection h with h; subst h; rcases h1 with h1 | h1 <;> simp [h1]
  rw [if_neg h1] at h
  by_cases h2 : l = [107] ∨ l = [107, 98]
  · rw [if_pos h2] at h; injection h with h; subst h; rcases h2 with h2 | h2 <;> simp [h2]
  rw [if_neg h2] at h
  by_cases h3 : l = [109] ∨ l = [109, 98]
  · rw [if_pos h3] at h; injection h with h; subst h; rcases h3 with h3 | h3 <;> simp [h3]
  rw [if_neg h3] at h
  by_cases h4 : l = [103] ∨ l = [103, 98]
  · rw [if_pos h4] at h; injection h with h; subst h; rcases h4 with h4 | h4 <;> simp [h4]
  rw [if_neg h4] at h; exact absurd h (by simp)
theorem unitOf_none {l : List UInt8} (h : unitOf l = none) : l ≠ [] ∧ l ≠ [98] ∧ l ≠ [107] ∧ l ≠ [107, 98] ∧ l ≠ [109] ∧ l ≠ [109, 98] ∧ l ≠ [103] ∧ l ≠ [103, 98] := by
  refine ⟨?_, ?_, ?_, ?_, ?_, ?_, ?_, ?_⟩ <;> (rintro rfl; exact absurd h (by decide))
theorem mk_of_data {s : ByteArray} {l : List UInt8} (h : s.data.toList = l) : s = ⟨l.toArray⟩ := by
  obtain ⟨⟨x⟩⟩ := s
  simp at h; subst h; rfl

end Go.Proofs.Ytcphneofdjelpaa.Pl
