/- Plain laws on amounts; no program in sight. -/
import Derived.Test.YtglihjdbbpohlaaPlT
namespace Go.Proofs.Ytglihjdbbpohlaa.Pl

/-- how many digits a text begins with -/
def lead (l : List UInt8) : Nat := (l.takeWhile isDig).length
theorem lead_le (l : List UInt8) : lead l ≤ l.length := by unfold lead; exact (List.takeWhile_sublist _).length_le
theorem take_lead (l : List UInt8) : l.take (lead l) = l.takeWhile isDig := by
  unfold lead
  induction l with
  | nil => rfl
  | cons c r ih =>
    by_cases h : isDig c = true
    · simp [h, ih]
    · simp [h]
theorem allDig_lead (l : List UInt8) : allDig (l.take (lead l)) = true := by
  rw [take_lead]; unfold allDig; exact List.all_takeWhile
theorem lead_get (l : List UInt8) (h : lead l < l.length) : isDig (l[lead l]) = false := by
  induction l with
  | nil => exact absurd h (by decide)
  | cons c r ih =>
    by_cases hc : isDig c = true
    · have e : lead (c :: r) = lead r + 1 := by unfold lead; simp [hc]
      have h' : lead r < r.length := by rw [e] at h; simpa using h
      simpa [e] using ih h'
    · have e : lead (c :: r) = 0 := by unfold lead; simp [hc]
      simpa [e] using hc
theorem allDig_getElem {l : List UInt8} (h : allDig l = true) (j : Nat) (hj : j < l.length) : isDig l[j] = true := by
  unfold allDig at h; exact List.all_eq_true.1 h _ (List.getElem_mem hj)
theorem lead_eq {l : List UInt8} {k : Nat} (hk : k ≤ l.length) (h : allDig (l.take k) = true) (h2 : ∀ h : k < l.length, isDig l[k] = false) : lead l = k := by
  rcases Nat.lt_trichotomy (lead l) k with hc | hc | hc
  · have h1 : lead l < (l.take k).length := by simp; omega
    have h3 := allDig_getElem h (lead l) h1
    rw [List.getElem_take, lead_get l (by omega)] at h3
    exact absurd h3 (by decide)
  · exact hc
  · have h0 := lead_le l
    have h1 : k < (l.take (lead l)).length := by simp; omega
    have h3 := allDig_getElem (allDig_lead l) k h1
    rw [List.getElem_take, h2 (by omega)] at h3
    exact absurd h3 (by decide)

/-- an amount's unit's bound -/
def mostU (u : Nat) : Int := if u = 0 then 1125899906842624 else if u = 1 then 1099511627776 else if u = 2 then 1073741824 else 1048576
def longU (u : Nat) : Int := if u = 0 then 1 else if u = 1 then 1024 else if u = 2 then 1048576 else 1073741824
/-- an amount's text: the error, the amount -/
def szE (l : List UInt8) : Int := match unitOf (l.drop (lead l)) with | some u => cntE (l.take (lead l)) (mostU u) | none => 3
def szV (l : List UInt8) : Int := match unitOf (l.drop (lead l)) with | some u => cntV (l.take (lead l)) (mostU u) * longU u | none => 0
theorem unitOf_le {l : List UInt8} {u : Nat} (h : unitOf l = some u) : u ≤ 3 := by
  rcases unitOf_some h with ⟨_, rfl⟩ | ⟨_, rfl⟩ | ⟨_, rfl⟩ | ⟨_, rfl⟩ | ⟨_, rfl⟩ | ⟨_, rfl⟩ | ⟨_, rfl⟩ | ⟨_, rfl⟩ <;> decide
theorem unitOf_nodig {l : List UInt8} {u : Nat} (h : unitOf l = some u) : ∀ c ∈ l, isDig c = false := by
  rcases unitOf_some h with ⟨rfl, _⟩ | ⟨rfl, _⟩ | ⟨rfl, _⟩ | ⟨rfl, _⟩ | ⟨rfl, _⟩ | ⟨rfl, _⟩ | ⟨rfl, _⟩ | ⟨rfl, _⟩ <;> decide
theorem szE_none {l : List UInt8} (h : unitOf (l.drop (lead l)) = none) : szE l = 3 := by unfold szE; rw [h]
theorem szV_none {l : List UInt8} (h : unitOf (l.drop (lead l)) = none) : szV l = 0 := by unfold szV; rw [h]
theorem szE_some {l : List UInt8} {u : Nat} (h : unitOf (l.drop (lead l)) = some u) : szE l = cntE (l.take (lead l)) (mostU u) := by unfold szE; rw [h]
theorem szV_some {l : List UInt8} {u : Nat} (h : unitOf (l.drop (lead l)) = some u) : szV l = cntV (l.take (lead l)) (mostU u) * longU u := by unfold szV; rw [h]

/-- the place behind the last digit serves as well as that behind the first ones -/
theorem back_lead {l : List UInt8} {k : Nat} (hk : k ≤ l.length) (h1 : ∀ j (h : j < l.length), k ≤ j → isDig l[j] = false) (h2 : k = 0 ∨ ∃ h : k - 1 < l.length, isDig l[k - 1] = true) :
    lead l = k ∨ (allDig (l.take k) = false ∧ unitOf (l.drop (lead l)) = none) := by
  by_cases hd : allDig (l.take k) = true
  · exact .inl (lead_eq hk hd fun h => h1 k h (Nat.le_refl _))
  · refine .inr ⟨eq_false_of_ne_true hd, ?_⟩
    rcases h2 with rfl | ⟨h2, h3⟩
    · rw [List.take_zero] at hd; exact absurd rfl hd
    · have hlt : lead l < k := by
        refine Decidable.byContradiction fun hc => hd ?_
        have := allDig_lead l
        unfold allDig at *
        rw [List.all_eq_true] at *
        intro c hc'
        exact this c (List.Sublist.mem hc' (List.take_sublist_take_left (by omega)))
      cases hu : unitOf (l.drop (lead l)) with
      | none => rfl
      | some u =>
        have hm : l[k - 1] ∈ l.drop (lead l) := by
          rw [List.mem_drop_iff_getElem]
          exact ⟨k - 1 - lead l, by omega, by congr 1; omega⟩
        rw [unitOf_nodig hu _ hm] at h3
        exact absurd h3 (by decide)
theorem szE_back {l : List UInt8} {k : Nat} (hk : k ≤ l.length) (h1 : ∀ j (h : j < l.length), k ≤ j → isDig l[j] = false) (h2 : k = 0 ∨ ∃ h : k - 1 < l.length, isDig l[k - 1] = true) :
    (unitOf (l.drop k) = none → szE l = 3 ∧ szV l = 0) ∧ (∀ u, unitOf (l.drop k) = some u → szE l = cntE (l.take k) (mostU u) ∧ szV l = cntV (l.take k) (mostU u) * longU u) := by
  rcases back_lead hk h1 h2 with rfl | ⟨hd, hn⟩
  · exact ⟨fun h => ⟨szE_none h, szV_none h⟩, fun u h => ⟨szE_some h, szV_some h⟩⟩
  · refine ⟨fun _ => ⟨szE_none hn, szV_none hn⟩, fun u _ => ?_⟩
    have hw : wholeB (l.take k) = false := by
      cases hw : wholeB (l.take k)
      · rfl
      · rw [wholeB_dig hw] at hd; exact absurd hd (by decide)
    have hm : 0 ≤ mostU u := by unfold mostU; split <;> (try split) <;> (try split) <;> omega
    rw [szE_none hn, szV_none hn, cntE_bad hm hw, cntV_bad hw]
    exact ⟨rfl, by omega⟩

theorem valS_gt (l : List UInt8) (m : Int) (hm : m ≤ 1125899906842624) : m < valS l ↔ m < val l := by
  by_cases h : 72057594037927936 ≤ val l
  · rw [valS_big h]; omega
  · rw [valS_small (by omega)]
theorem valS_le {l : List UInt8} {m : Int} (hm : m ≤ 1125899906842624) (h : ¬ m < valS l) : valS l = val l := by
  rw [valS_gt l m hm] at h
  exact valS_small (by omega)

theorem cntV_bd (l : List UInt8) (m : Int) (hm : 0 ≤ m) : 0 ≤ cntV l m ∧ cntV l m ≤ m := by
  unfold cntV
  split
  · omega
  · split
    · omega
    · split <;> omega

/-- the level of an amount's short text -/
def lvl (n : Nat) : Nat := if n = 0 ∨ n % 1024 ≠ 0 then 0 else if n % 1048576 ≠ 0 then 1 else if n % 1073741824 ≠ 0 then 2 else 3
theorem lvl_le (n : Nat) : lvl n ≤ 3 := by unfold lvl; split <;> (try split) <;> (try split) <;> omega

/-- an amount's unit; 0: it is none -/
def szU (n : Int) : Int := if n < 0 ∨ 1125899906842624 < n then 0 else longU (lvl n.toNat)
def sfx (u : Nat) : List UInt8 := if u = 0 then [] else if u = 1 then [107] else if u = 2 then [109] else [103]
/-- an amount's short text -/
def szT (n : Int) : List UInt8 := if n < 0 ∨ 1125899906842624 < n then [] else txt (n / longU (lvl n.toNat)) ++ sfx (lvl n.toNat)
theorem lvl_cases (n : Nat) : (lvl n = 0 ∧ (n = 0 ∨ n % 1024 ≠ 0)) ∨ (lvl n = 1 ∧ n ≠ 0 ∧ n % 1024 = 0 ∧ n % 1048576 ≠ 0) ∨ (lvl n = 2 ∧ n ≠ 0 ∧ n % 1024 = 0 ∧ n % 1048576 = 0 ∧ n % 1073741824 ≠ 0) ∨ (lvl n = 3 ∧ n ≠ 0 ∧ n % 1024 = 0 ∧ n % 1048576 = 0 ∧ n % 1073741824 = 0) := by
  unfold lvl
  by_cases h0 : n = 0 ∨ n % 1024 ≠ 0
  · rw [if_pos h0]; exact .inl ⟨rfl, h0⟩
  rw [if_neg h0]
  by_cases h1 : n % 1048576 ≠ 0
  · rw [if_pos h1]; exact .inr (.inl ⟨rfl, by omega, by omega, h1⟩)
  rw [if_neg h1]
  by_cases h2 : n % 1073741824 ≠ 0
  · rw [if_pos h2]; exact .inr (.inr (.inl ⟨rfl, by omega, by omega, by omega, h2⟩))
  rw [if_neg h2]; exact .inr (.inr (.inr ⟨rfl, by omega, by omega, by omega, by omega⟩))
theorem szU_in {n : Nat} (h : n ≤ 1125899906842624) : szU n = longU (lvl n) := by unfold szU; rw [if_neg (by omega), Int.toNat_natCast]
theorem szT_in {n : Nat} (h : n ≤ 1125899906842624) : szT n = txt ((n : Int) / longU (lvl n)) ++ sfx (lvl n) := by unfold szT; rw [if_neg (by omega), Int.toNat_natCast]
theorem szU_out {n : Int} (h : n < 0 ∨ 1125899906842624 < n) : szU n = 0 := by unfold szU; rw [if_pos h]
theorem szT_out {n : Int} (h : n < 0 ∨ 1125899906842624 < n) : szT n = [] := by unfold szT; rw [if_pos h]

end Go.Proofs.Ytglihjdbbpohlaa.Pl
