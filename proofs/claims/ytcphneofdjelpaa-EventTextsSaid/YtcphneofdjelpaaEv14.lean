/- Few notes, of few bytes. -/
import Derived.Test.YtcphneofdjelpaaEv4
namespace Go.Proofs.Ytcphneofdjelpaa.W
open Go.RowKit Go.Proofs.Ytcphneofdjelpaa.Pl

/-- a note of few bytes -/
def okN (x : NV) : Bool := decide (x.proj.size ≤ 200) && decide (x.cn.size ≤ 200) && decide (x.s0.size ≤ 200) && decide (x.nl ≤ 10) && decide (x.vl ≤ 10)
theorem okN_iff (x : NV) : okN x = true ↔ x.proj.size ≤ 200 ∧ x.cn.size ≤ 200 ∧ x.s0.size ≤ 200 ∧ x.nl ≤ 10 ∧ x.vl ≤ 10 := by
  unfold okN; simp only [Bool.and_eq_true, decide_eq_true_eq, and_assoc]
/-- few notes, of few bytes -/
def fewB (xs : List NV) : Bool := decide (xs.length ≤ 60) && xs.all okN
theorem few_len {xs : List NV} (h : fewB xs = true) : xs.length ≤ 60 := by
  unfold fewB at h; rw [Bool.and_eq_true, decide_eq_true_eq] at h; exact h.1
theorem few_ok {xs : List NV} (h : fewB xs = true) : ∀ x ∈ xs, okN x = true := by
  unfold fewB at h; rw [Bool.and_eq_true, List.all_eq_true] at h; exact h.2
theorem few_no {xs : List NV} {k : Nat} {x : NV} (hx : xs[k]? = some x) (h : ¬ okN x = true) : fewB xs = false := by
  cases hf : fewB xs with
  | false => rfl
  | true => exact absurd (few_ok hf x (List.mem_of_getElem? hx)) h

set_option maxRecDepth 100000 in
set_option maxHeartbeats 4000000 in
theorem kFew (v : Go.Value) (xs : List NV) (w : World) (hr : NRow w v xs) :
    Calls Try.prog 5 #[v, .int .i64 60] w fun e w' => e = .returned (.bool (fewB xs)) ∧ w = w' := by
  obtain ⟨A, cap, rfl, hcap, hcap2, hcell⟩ := hr
  unfold maxLen at hcap2
  have HL := Lib.hid hcell
  clear hcell
  by_cases hn : xs.length ≤ 60
  · have HF := Lib.hid (show ∀ k x, xs[k]? = some x → ¬ okN x = true → fewB xs = false from fun k x hx h => few_no hx h)
    have HT := Lib.hid (show (∀ j x, j < xs.length → xs[j]? = some x → okN x = true) → fewB xs = true from fun h => by
      unfold fewB
      rw [Bool.and_eq_true, decide_eq_true_eq, List.all_eq_true]
      refine ⟨hn, fun x hx => ?_⟩
      obtain ⟨j, hj, rfl⟩ := List.mem_iff_getElem.1 hx
      exact h j _ hj (List.getElem?_eq_getElem hj))
    generalize fewB xs = F at *
    obtain ⟨n, hnn⟩ : ∃ n, xs.length = n := ⟨_, rfl⟩
    have HN := Lib.hid hnn
    rw [hnn] at hn hcap HL HT ⊢
    clear hnn
    have hn60 : decide ((60 : Int) < (n : Int)) = false := decide_eq_false (by omega)
    go_enter Try.func5, Try.ntmps5
    go_wp2_with fail
    go_loop [5] (fun i => ∃ (k : Nat), k ≤ n ∧ i = .int .i64 k ∧ Hid (∀ j x, j < k → xs[j]? = some x → okN x = true)) (fun i => n - (intOf i).toNat)
    case atStart => exact ⟨0, Nat.zero_le _, rfl, Lib.hid fun j x hj => absurd hj (by omega)⟩
    case round =>
      obtain ⟨k, hk, rfl, HO⟩ := hrel
      by_cases hlt : k < n
      · obtain ⟨b, off, rfl, hb, hL⟩ := HL.out (by omega)
        obtain ⟨x, hx⟩ : ∃ x, xs[k]? = some x := ⟨_, List.getElem?_eq_getElem (by have := HN.out; omega)⟩
        have hc := hL k x hx
        have c2 : w.cell? ⟨b, off + k * 22 + 2, none⟩ = some (.string x.proj) := hc 2 _ rfl
        have c4 : w.cell? ⟨b, off + k * 22 + 4, none⟩ = some (.string x.cn) := hc 4 _ rfl
        have c6 : w.cell? ⟨b, off + k * 22 + 6, none⟩ = some (.string x.s0) := hc 6 _ rfl
        have c11 : w.cell? ⟨b, off + k * 22 + 11, none⟩ = some (.slice x.na x.nl x.nc) := hc 11 _ rfl
        have c12 : w.cell? ⟨b, off + k * 22 + 12, none⟩ = some (.slice x.va x.vl x.vc) := hc 12 _ rfl
        have HX := Lib.hid hx
        have HQ := Lib.hid (okN_iff x)
        clear hL hc hx
        by_cases q1 : x.proj.size ≤ 200
        · by_cases q2 : x.cn.size ≤ 200
          · by_cases q3 : x.s0.size ≤ 200
            · by_cases q4 : x.nl ≤ 10
              · by_cases q5 : x.vl ≤ 10
                · have HY := Lib.hid (HQ.out.2 ⟨q1, q2, q3, q4, q5⟩)
                  go_wp2_with fail
                  go_round
                  case rel => exact ⟨k + 1, by omega, by go_num, Lib.hid fun j y hj hy => by
                    rcases Nat.lt_succ_iff_lt_or_eq.1 hj with h | h
                    · exact HO.out j y h hy
                    · subst h; have := HX.out; rw [hy] at this; injection this with this; rw [this]; exact HY.out⟩
                  case measure => simp [intOf]; omega
                · have HY := Lib.hid (HF.out k x HX.out (fun h => q5 (HQ.out.1 h).2.2.2.2))
                  go_wp2_with fail
                  go_ret
                  exact ⟨by rw [HY.out]; rfl, rfl⟩
              · have HY := Lib.hid (HF.out k x HX.out (fun h => q4 (HQ.out.1 h).2.2.2.1))
                go_wp2_with fail
                go_ret
                exact ⟨by rw [HY.out]; rfl, rfl⟩
            · have HY := Lib.hid (HF.out k x HX.out (fun h => q3 (HQ.out.1 h).2.2.1))
              go_wp2_with fail
              go_ret
              exact ⟨by rw [HY.out]; rfl, rfl⟩
          · have HY := Lib.hid (HF.out k x HX.out (fun h => q2 (HQ.out.1 h).2.1))
            go_wp2_with fail
            go_ret
            exact ⟨by rw [HY.out]; rfl, rfl⟩
        · have HY := Lib.hid (HF.out k x HX.out (fun h => q1 (HQ.out.1 h).1))
          go_wp2_with fail
          go_ret
          exact ⟨by rw [HY.out]; rfl, rfl⟩
      · have HY := Lib.hid (HT.out (fun j x hj hx => HO.out j x (by omega) hx))
        go_wp2_with fail
        go_ret
        exact ⟨by rw [HY.out]; rfl, rfl⟩
  · have HF : Hid (fewB xs = false) := Lib.hid (by unfold fewB; rw [decide_eq_false hn]; rfl)
    rw [HF.out]
    clear HF HL
    obtain ⟨n, hnn⟩ : ∃ n, xs.length = n := ⟨_, rfl⟩
    rw [hnn] at hn hcap ⊢
    clear hnn
    have hn60 : decide ((60 : Int) < (n : Int)) = true := decide_eq_true (by omega)
    go_enter Try.func5, Try.ntmps5
    go_wp2_with fail
    go_ret
    exact ⟨rfl, rfl⟩
end Go.Proofs.Ytcphneofdjelpaa.W
