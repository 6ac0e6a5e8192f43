/- The reference's words by number. -/
import Derived.Test.YtcphneofdjelpaaEv14
import Derived.Test.YtcphneofdjelpaaEv11
namespace Go.Proofs.Ytcphneofdjelpaa.W
open Go.RowKit Go.Proofs.Ytcphneofdjelpaa.Pl

set_option maxRecDepth 100000 in
theorem kWordR (m : Nat) (b c : Nat) (l : List (List UInt8)) (w : World) (T : TypeId) (hb : w.heap[b]? = some (.cells (strs l) T (0, 0))) (hl : l.length ≤ 100) (r : List UInt8) (hr : l[m]? = some r) :
    Calls Try.prog 36 #[.slice (some ⟨b, 0, none⟩) l.length c, .int .i64 ((m : Int) + 1)] w fun e w' => e = .returned (.string (bs r)) ∧ w = w' := by
  have hm : m < l.length := (List.getElem?_eq_some_iff.1 hr).1
  have hcell : w.cell? ⟨b, m, none⟩ = some (.string (bs r)) := by
    rw [cell_of_row w b m _ _ _ hb, strs, List.getElem?_toArray, List.getElem?_map, hr]; rfl
  clear hb hr
  generalize l.length = L at *
  go_enter Try.func36, Try.ntmps36
  go_wp2_with fail
  go_loop [5] (fun i => ∃ (k : Nat), k ≤ m ∧ i = .int .i64 k) (fun i => L - (intOf i).toNat)
  case atStart => exact ⟨0, Nat.zero_le _, rfl⟩
  case round =>
    obtain ⟨k, hk, rfl⟩ := hrel
    have hkL : k < L := by omega
    by_cases hkm : k = m
    · subst hkm
      go_wp2_with fail
      go_ret
      exact ⟨rfl, rfl⟩
    · have hb1 : ((k : Int) == (m : Int)) = false := beqF (by omega)
      have hb2 : (k == m) = false := by simpa using hkm
      go_wp2_with fail
      go_round
      case rel => exact ⟨k + 1, by omega, by go_num⟩
      case measure => simp [intOf]; omega

theorem word_nth {l : List (List UInt8)} {n : Int} (h1 : ¬ n < 1) (h2 : ¬ (l.length : Int) < n) : ∃ m : Nat, n = (m : Int) + 1 ∧ l[m]? = some (wordN l n) := by
  obtain ⟨m, rfl⟩ : ∃ m : Nat, n = (m : Int) + 1 := ⟨(n - 1).toNat, by omega⟩
  have hm : m < l.length := by omega
  exact ⟨m, rfl, by rw [wordN_in (List.getElem?_eq_getElem hm)]; exact List.getElem?_eq_getElem hm⟩

set_option maxRecDepth 100000 in
theorem kNameR (n : Int) (w : World) :
    Calls Try.prog 21 #[.int .i64 n] w fun e w' => e = .returned (.string (bs (wordN kindL n))) ∧ Below w.heap.size w w' := by
  by_cases h1 : n < 1
  · have HE := Lib.hid (wordN_out (l := kindL) (Or.inl h1))
    rw [HE.out]
    go_enter Try.func21, Try.ntmps21
    go_wp2_with fail
    go_ret
    exact ⟨rfl, Below.refl _ _⟩
  · by_cases h2 : (9 : Int) < n
    · have HE := Lib.hid (wordN_out (l := kindL) (Or.inr h2))
      rw [HE.out]
      go_enter Try.func21, Try.ntmps21
      go_wp2_with fail
      go_ret
      exact ⟨rfl, Below.refl _ _⟩
    · obtain ⟨m, rfl, hm⟩ := word_nth (l := kindL) h1 h2
      generalize wordN kindL ((m : Int) + 1) = r at *
      have HK := Lib.hid (fun (w1 : World) hb => kWordR m w.heap.size 9 kindL w1 9 hb (by decide) r hm)
      clear hm
      go_enter Try.func21, Try.ntmps21
      go_wp2_with fail
      refine (HK.out _ (heap_alloc_new w _)).mono ?_
      rintro e w1 ⟨rfl, rfl⟩
      go_wp2_with fail
      go_ret
      exact ⟨rfl, (Below.refl _ _).alloc (Nat.le_refl _) _⟩

set_option maxRecDepth 100000 in
theorem kCommandR (n : Int) (w : World) :
    Calls Try.prog 23 #[.int .i64 n] w fun e w' => e = .returned (.string (bs (wordN cmdL n))) ∧ Below w.heap.size w w' := by
  by_cases h1 : n < 1
  · have HE := Lib.hid (wordN_out (l := cmdL) (Or.inl h1))
    rw [HE.out]
    go_enter Try.func23, Try.ntmps23
    go_wp2_with fail
    go_ret
    exact ⟨rfl, Below.refl _ _⟩
  · by_cases h2 : (6 : Int) < n
    · have HE := Lib.hid (wordN_out (l := cmdL) (Or.inr h2))
      rw [HE.out]
      go_enter Try.func23, Try.ntmps23
      go_wp2_with fail
      go_ret
      exact ⟨rfl, Below.refl _ _⟩
    · obtain ⟨m, rfl, hm⟩ := word_nth (l := cmdL) h1 h2
      generalize wordN cmdL ((m : Int) + 1) = r at *
      have HK := Lib.hid (fun (w1 : World) hb => kWordR m w.heap.size 6 cmdL w1 9 hb (by decide) r hm)
      clear hm
      go_enter Try.func23, Try.ntmps23
      go_wp2_with fail
      refine (HK.out _ (heap_alloc_new w _)).mono ?_
      rintro e w1 ⟨rfl, rfl⟩
      go_wp2_with fail
      go_ret
      exact ⟨rfl, (Below.refl _ _).alloc (Nat.le_refl _) _⟩

set_option maxRecDepth 100000 in
theorem kProbeR (n : Int) (w : World) :
    Calls Try.prog 31 #[.int .i64 n] w fun e w' => e = .returned (.string (bs (probeT n))) ∧ Below w.heap.size w w' := by
  have HB := Lib.hid (fun O : Obj => (Below.refl w.heap.size w).alloc (Nat.le_refl _) O)
  by_cases h1 : n < 0
  · have HE : Hid (probeT n = []) := Lib.hid (by unfold probeT; rw [if_pos (Or.inl h1)])
    rw [HE.out]
    go_enter Try.func31, Try.ntmps31
    go_wp2_with fail
    go_ret
    exact ⟨rfl, HB.out _⟩
  · by_cases h2 : (3 : Int) < n
    · have HE : Hid (probeT n = []) := Lib.hid (by unfold probeT; rw [if_pos (Or.inr (by omega))])
      rw [HE.out]
      go_enter Try.func31, Try.ntmps31
      go_wp2_with fail
      go_ret
      exact ⟨rfl, HB.out _⟩
    · obtain ⟨m, rfl⟩ : ∃ m : Nat, n = (m : Int) := ⟨n.toNat, by omega⟩
      have hm : m < 4 := by omega
      have hP : probeT (m : Int) = probeL[m]'hm := by
        unfold probeT
        rw [if_neg (by omega), Int.toNat_natCast, List.getD_eq_getElem?_getD, List.getElem?_eq_getElem hm]; rfl
      have hcell : (w.alloc (.cells (strs probeL) 9)).cell? ⟨w.heap.size, m, none⟩ = some (.string (bs (probeT (m : Int)))) := by
        rw [World.cell?_alloc_at _ _ _ _ rfl, hP, strs, List.getElem?_toArray, List.getElem?_map, List.getElem?_eq_getElem (l := probeL) hm]; rfl
      have hcell2 : (w.alloc (.cells #[.string ⟨#[110, 111, 110, 101]⟩, .string ⟨#[115, 116, 97, 114, 116, 105, 110, 103]⟩, .string ⟨#[104, 101, 97, 108, 116, 104, 121]⟩, .string ⟨#[117, 110, 104, 101, 97, 108, 116, 104, 121]⟩] 9)).cell? ⟨w.heap.size, m, none⟩ = some (.string (bs (probeT (m : Int)))) := hcell
      clear hP hcell
      generalize probeT (m : Int) = r at *
      go_enter Try.func31, Try.ntmps31
      go_wp2_with fail
      go_ret
      exact ⟨rfl, HB.out _⟩
end Go.Proofs.Ytcphneofdjelpaa.W
