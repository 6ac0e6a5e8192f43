/- Plain laws on the readers of thousandths; no program in sight. -/
import Derived.Test.YtglihjdbbpohlaaPlD
namespace Go.Proofs.Ytglihjdbbpohlaa.Pl

/-- what the digits behind the point tell -/
def mpart (t : List UInt8) (k : Nat) : Nat := val ((t ++ [48, 48, 48]).take k)
/-- thousandths out of what stands ahead of the point and behind it -/
def mlE (h t : List UInt8) : Int :=
  if allDig t = false then 3 else if cntE h 9007199254740 = 0 then (if 9007199254740992 < cntV h 9007199254740 * 1000 + mpart t 3 then 9 else 0) else cntE h 9007199254740
def mlV (h t : List UInt8) : Int :=
  if allDig t = false then 0 else if cntE h 9007199254740 = 0 then (if 9007199254740992 < cntV h 9007199254740 * 1000 + mpart t 3 then 0 else cntV h 9007199254740 * 1000 + mpart t 3) else 0
theorem ml_bad {h t : List UInt8} (ht : allDig t = false) : mlE h t = 3 ∧ mlV h t = 0 := by unfold mlE mlV; rw [if_pos ht, if_pos ht]; exact ⟨rfl, rfl⟩
theorem ml_head {h t : List UInt8} (ht : allDig t = true) (hh : cntE h 9007199254740 ≠ 0) : mlE h t = cntE h 9007199254740 ∧ mlV h t = 0 := by
  unfold mlE mlV; simp [ht, hh]
theorem ml_over {h t : List UInt8} (ht : allDig t = true) (hh : cntE h 9007199254740 = 0) (ho : 9007199254740992 < cntV h 9007199254740 * 1000 + mpart t 3) : mlE h t = 9 ∧ mlV h t = 0 := by
  unfold mlE mlV; simp [ht, hh, ho]
theorem ml_ok {h t : List UInt8} (ht : allDig t = true) (hh : cntE h 9007199254740 = 0) (ho : ¬ 9007199254740992 < cntV h 9007199254740 * 1000 + mpart t 3) : mlE h t = 0 ∧ mlV h t = cntV h 9007199254740 * 1000 + mpart t 3 := by
  unfold mlE mlV; simp [ht, hh, ho]
theorem part_zero (t : List UInt8) : mpart t 0 = 0 := by unfold mpart; rw [List.take_zero]; rfl
theorem part_dig (t : List UInt8) (k : Nat) (h : k < t.length) : mpart t (k + 1) = mpart t k * 10 + (t[k].toNat - 48) := by
  unfold mpart
  rw [List.take_succ_eq_append_getElem (by simp; omega), val_snoc]
  rw [List.getElem_append_left h]
theorem part_pad (t : List UInt8) (k : Nat) (h : t.length ≤ k) (hk : k < 3) : mpart t (k + 1) = mpart t k * 10 := by
  unfold mpart
  rw [List.take_succ_eq_append_getElem (by simp; omega), val_snoc, List.getElem_append_right h]
  have : ([48, 48, 48] : List UInt8)[k - t.length]'(by simp; omega) = 48 := by
    have h3 : k - t.length < 3 := by omega
    rcases (show k - t.length = 0 ∨ k - t.length = 1 ∨ k - t.length = 2 by omega) with e | e | e <;> simp [e]
  rw [this]; rfl
theorem part_all {t : List UInt8} (h : t.length ≤ 3) : mpart t 3 = val t * 10 ^ (3 - t.length) := by
  unfold mpart
  match t, h with
  | [], _ => rfl
  | [a], _ => simp [val]; omega
  | [a, b], _ => simp [val]
  | [a, b, c], _ => simp [val]
theorem part_lt (l : List UInt8) (k : Nat) (h : allDig (l.take k) = true) : mpart l k < 10 ^ k := by
  unfold mpart
  have hd : allDig ((l ++ [48, 48, 48]).take k) = true := by
    rw [List.take_append]
    unfold allDig at *
    rw [List.all_append, h, Bool.true_and, List.all_eq_true]
    intro c hc
    have := List.mem_of_mem_take hc
    simp at this; subst this; decide
  refine Nat.lt_of_lt_of_le (val_lt_pow _ hd) (Nat.pow_le_pow_right (by omega) (by simp; omega))
theorem part_le (l : List UInt8) (k : Nat) (hk : k ≤ 3) (h : allDig (l.take k) = true) : mpart l k ≤ 999 := by
  have h1 := part_lt l k h
  have h2 : 10 ^ k ≤ 10 ^ 3 := Nat.pow_le_pow_right (by omega) hk
  omega

/-- the place of the first point; the length, if there is none -/
def pt (l : List UInt8) : Nat := (l.takeWhile fun c => c != 46).length
theorem pt_le (l : List UInt8) : pt l ≤ l.length := by unfold pt; exact (List.takeWhile_sublist _).length_le
theorem pt_get (l : List UInt8) (h : pt l < l.length) : l[pt l] = 46 := by
  induction l with
  | nil => exact absurd h (by decide)
  | cons c r ih =>
    by_cases hc : c = 46
    · have e : pt (c :: r) = 0 := by unfold pt; simp [hc]
      simpa [e] using hc
    · have e : pt (c :: r) = pt r + 1 := by unfold pt; simp [hc]
      have h' : pt r < r.length := by rw [e] at h; simpa using h
      simpa [e] using ih h'
theorem pt_lt (l : List UInt8) (j : Nat) (hj : j < pt l) (h : j < l.length) : l[j] ≠ 46 := by
  induction l generalizing j with
  | nil => exact absurd h (by simp)
  | cons c r ih =>
    by_cases hc : c = 46
    · have e : pt (c :: r) = 0 := by unfold pt; simp [hc]
      omega
    · have e : pt (c :: r) = pt r + 1 := by unfold pt; simp [hc]
      cases j with
      | zero => simpa using hc
      | succ j => simpa using ih j (by omega) (by simpa using h)
/-- what may not stand behind a point -/
def badTail (t : List UInt8) : Prop := t.length < 1 ∨ 3 < t.length ∨ t.getLast? = some 48
instance (t : List UInt8) : Decidable (badTail t) := by unfold badTail; infer_instance
/-- a text of thousandths: the error, the number -/
def milE (l : List UInt8) : Int := if pt l < l.length then (if badTail (l.drop (pt l + 1)) then 3 else mlE (l.take (pt l)) (l.drop (pt l + 1))) else mlE l []
def milV (l : List UInt8) : Int := if pt l < l.length then (if badTail (l.drop (pt l + 1)) then 0 else mlV (l.take (pt l)) (l.drop (pt l + 1))) else mlV l []
theorem mil_bad {l : List UInt8} (h : pt l < l.length) (hb : badTail (l.drop (pt l + 1))) : milE l = 3 ∧ milV l = 0 := by unfold milE milV; simp [h, hb]
theorem mil_good {l : List UInt8} (h : pt l < l.length) (hb : ¬ badTail (l.drop (pt l + 1))) : milE l = mlE (l.take (pt l)) (l.drop (pt l + 1)) ∧ milV l = mlV (l.take (pt l)) (l.drop (pt l + 1)) := by unfold milE milV; simp [h, hb]
theorem mil_none {l : List UInt8} (h : ¬ pt l < l.length) : milE l = mlE l [] ∧ milV l = mlV l [] := by unfold milE milV; simp [h]
theorem getLast_ba (t : ByteArray) (h : 1 ≤ t.size) : t.data.toList.getLast? = some (t[t.size - 1]'(by omega)) := by
  rw [List.getLast?_eq_getElem?, len_eq, List.getElem?_eq_getElem (by rw [len_eq]; omega)]; rfl
theorem badTail_cases (t : ByteArray) (h : badTail t.data.toList) : t.size < 1 ∨ 3 < t.size ∨ (1 ≤ t.size ∧ t.size ≤ 3 ∧ ∃ h : t.size - 1 < t.size, t[t.size - 1] = 48) := by
  unfold badTail at h
  rw [len_eq] at h
  by_cases h1 : t.size < 1
  · exact .inl h1
  by_cases h2 : 3 < t.size
  · exact .inr (.inl h2)
  rcases h with h | h | h
  · exact absurd h h1
  · exact absurd h h2
  · rw [getLast_ba t (by omega)] at h
    injection h with h
    exact .inr (.inr ⟨by omega, by omega, by omega, h⟩)
theorem goodTail (t : ByteArray) (h : ¬ badTail t.data.toList) : 1 ≤ t.size ∧ t.size ≤ 3 ∧ ∃ h : t.size - 1 < t.size, t[t.size - 1].toNat ≠ 48 := by
  have h' : ¬ (t.size < 1 ∨ 3 < t.size ∨ t.data.toList.getLast? = some 48) := by
    have := h; unfold badTail at this; rwa [len_eq] at this
  have h1 : ¬ t.size < 1 := fun x => h' (.inl x)
  have h2 : ¬ 3 < t.size := fun x => h' (.inr (.inl x))
  refine ⟨by omega, by omega, by omega, fun e => h' (.inr (.inr ?_))⟩
  rw [getLast_ba t (by omega)]
  congr 1
  exact UInt8.toNat_inj.1 e

theorem mpart_le' (l : List UInt8) (h : allDig l = true) : mpart l 3 ≤ 999 := by
  refine part_le l 3 (by omega) ?_
  unfold allDig at *
  rw [List.all_eq_true] at *
  exact fun c hc => h c (List.mem_of_mem_take hc)
/-- as the reference reckons it -/
theorem ml_ref {h t : List UInt8} (hw : wholeB h = true) (hd : allDig t = true) :
    ((9007199254740 < valS h ∨ 9007199254740992 < valS h * 1000 + mpart t 3) → mlE h t = 9 ∧ mlV h t = 0) ∧
    (valS h ≤ 9007199254740 → valS h * 1000 + mpart t 3 ≤ 9007199254740992 → mlE h t = 0 ∧ mlV h t = valS h * 1000 + mpart t 3) := by
  have hq := mpart_le' t hd
  by_cases hv : (val h : Int) ≤ 9007199254740
  · have hs : valS h = val h := valS_le (m := 9007199254740) (by omega) (by rw [valS_gt _ _ (by omega)]; omega)
    rw [hs]
    have hE := cntE_ok hw hv
    have hV := cntV_ok hw hv
    refine ⟨fun ho => ?_, fun _ ho => ?_⟩
    · exact ml_over hd hE (by rw [hV]; omega)
    · have := ml_ok hd hE (by rw [hV]; omega)
      rw [hV] at this; exact this
  · have hs : 9007199254740 < valS h := by rw [valS_gt _ _ (by omega)]; omega
    refine ⟨fun _ => ?_, fun ho => by omega⟩
    have hE := cntE_big (by omega) hw (show (9007199254740 : Int) < val h by omega)
    have := ml_head (h := h) hd (by rw [hE]; decide)
    rw [hE] at this; exact this

end Go.Proofs.Ytglihjdbbpohlaa.Pl
