/- The walk of SizeBack. -/
import Derived.Test.YtglihjdbbpohlaaLaw4
namespace Go.Proofs.Ytglihjdbbpohlaa.W
open Go.RowKit Go.Proofs.Ytglihjdbbpohlaa.Pl

/-- what a reader answers -/
def pairV (a b : Int) : Go.Value := .tuple #[.int .i64 a, .int .i64 b]

theorem kSizeParseBs (l : List UInt8) (w : World) (hs : l.length ≤ 2000) (a b : Int) (ha : szV l = a) (hb : szE l = b) :
    Calls Try.prog 16 #[.string (bs l)] w fun e w' => e = .returned (.tuple #[.int .i64 a, .int .i64 b]) ∧ ∃ n, w' = w.drewN n := by
  have := kSizeParse (bs l) w (by rw [bs_size]; omega)
  rw [bs_data, ha, hb] at this
  exact this
theorem szT_len (n : Int) : (szT n).length ≤ 21 := by
  by_cases h : n < 0 ∨ 1125899906842624 < n
  · rw [szT_out h]; decide
  · obtain ⟨m, rfl⟩ : ∃ m : Nat, n = (m : Int) := ⟨n.toNat, by omega⟩
    obtain ⟨q, u, hu, _, ht, _, hm⟩ := szT_parts (n := m) (by omega)
    rw [ht, List.length_append, sfx_len hu]
    have h1 : mostU u ≤ 1125899906842624 := by unfold mostU; split <;> (try split) <;> (try split) <;> omega
    have := dec_len_le 20 q (by omega) (by decide)
    split <;> omega

/-- what stands behind the first test -/
theorem kSizeBack_rest (n : Int) (s : ByteArray) (w : World) (hs : s.size ≤ 2000) (hr : 0 ≤ n ∧ n ≤ 1125899906842624 ∨ (n < 0 ∨ 1125899906842624 < n)) :
    Calls Try.prog 4 #[.int .i64 n, .string s] w fun e w' => e = .returned (.bool true) ∧ Below w.heap.size w w' := by
  have hb0 := Below.refl w.heap.size w
  have hB0 : w.heap.size ≤ w.heap.size := Nat.le_refl _
  obtain ⟨a, ha⟩ : ∃ a, szV (szT n) = a := ⟨_, rfl⟩
  obtain ⟨b, hb⟩ : ∃ b, szE (szT n) = b := ⟨_, rfl⟩
  obtain ⟨c, hc⟩ : ∃ c, szV s.data.toList = c := ⟨_, rfl⟩
  have hdec : (0 ≤ n ∧ n ≤ 1125899906842624 ∧ (a != n) = false ∧ (b != 0) = false) ∨ n < 0 ∨ 1125899906842624 < n := by
    rcases hr with ⟨h0, h1⟩ | hr
    · have := sz_back h0 h1
      exact .inl ⟨h0, h1, bneF (by rw [← ha, this.2]), bneF (by rw [← hb, this.1])⟩
    · exact .inr hr
  have C1 := Lib.hid (fun w1 => kSizeParseBs (szT n) w1 (Nat.le_trans (szT_len n) (by omega)) a b ha hb)
  have C2 := Lib.hid (fun w1 => kSizeParse s w1 (by omega))
  rw [hc] at C2
  have hf : (szE s.data.toList != 0) = true ∨ ((szE s.data.toList != 0) = false ∧ (bs (szT c)).size ≤ s.size) := by
    by_cases h : szE s.data.toList = 0
    · refine .inr ⟨bneF h, ?_⟩
      rw [bs_size, ← hc, ← len_eq]; exact sz_short h
    · exact .inl (bneT h)
  clear ha hb hc hr
  generalize szE s.data.toList = f at *
  rcases hdec with ⟨g1, g2, g3, g4⟩ | g1 | g1
  all_goals
    rcases hf with hf | ⟨hf, hl⟩
    all_goals
      go_enter Try.func4, Try.ntmps4
      go_wp2_with fail
      refine (rel (by assumption) (by assumption) (kSizeText n _)).mono ?_
      rintro e w1 ⟨rfl, hb1, hB1⟩
      go_wp2_with fail
      refine (relD (by assumption) (by assumption) (C1.out _)).mono ?_
      rintro e w2 ⟨rfl, hb2, hB2⟩
      go_wp2_with fail
      refine (relD (by assumption) (by assumption) (C2.out _)).mono ?_
      rintro e w3 ⟨rfl, hb3, hB3⟩
      go_wp2_with fail
      first
        | (refine (rel (by assumption) (by assumption) (kSizeText c _)).mono ?_
           rintro e w4 ⟨rfl, hb4, hB4⟩
           go_wp2_with fail)
        | skip
      refine (rel (by assumption) (by assumption) (kAwake4 _)).mono ?_
      rintro e w5 ⟨rfl, hb5, hB5⟩
      go_wp2_with fail
      go_ret
      exact ⟨rfl, by assumption⟩

theorem kSizeBack (n : Int) (s : ByteArray) (w : World) (hs : s.size ≤ maxLen) :
    Calls Try.prog 4 #[.int .i64 n, .string s] w fun e w' => e = .returned (.bool true) ∧ Below w.heap.size w w' := by
  unfold maxLen at hs
  by_cases h : s.size ≤ 2000
  · exact kSizeBack_rest n s w h (by omega)
  · have hb0 := Below.refl w.heap.size w
    have hB0 : w.heap.size ≤ w.heap.size := Nat.le_refl _
    go_enter Try.func4, Try.ntmps4
    go_wp2_with fail
    refine (rel (by assumption) (by assumption) (kAwake4 _)).mono ?_
    rintro e w3 ⟨rfl, hb3, hB3⟩
    go_wp2_with fail
    go_ret
    exact ⟨rfl, by assumption⟩
end Go.Proofs.Ytglihjdbbpohlaa.W
