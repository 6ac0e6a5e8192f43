/- A note as text. -/
import Derived.Test.YtcphneofdjelpaaEv9
import Derived.Test.YtcphneofdjelpaaShelf
namespace Go.Proofs.Ytcphneofdjelpaa.W
open Go.RowKit Go.Proofs.Ytcphneofdjelpaa.Pl

/-- the word of a health -/
def probeL : List (List UInt8) := [[110, 111, 110, 101], [115, 116, 97, 114, 116, 105, 110, 103], [104, 101, 97, 108, 116, 104, 121], [117, 110, 104, 101, 97, 108, 116, 104, 121]]
def probeT (n : Int) : List UInt8 := if n < 0 ∨ 4 ≤ n then [] else probeL.getD n.toNat []

set_option maxRecDepth 100000 in
theorem kProbe (n : Int) (w : World) :
    Calls Try.prog 28 #[.int .i64 n] w fun e w' => e = .returned (.string (bs (probeT n))) ∧ w = w' := by
  obtain ⟨r, hr⟩ : ∃ r, probeT n = r := ⟨_, rfl⟩
  rw [hr]
  have HR := Lib.hid hr
  clear hr
  by_cases h3 : n = 3
  · subst h3
    obtain rfl := HR.out
    go_enter Try.func28, Try.ntmps28
    go_wp2_with fail
    go_ret
    exact ⟨rfl, rfl⟩
  by_cases h2 : n = 2
  · subst h2
    obtain rfl := HR.out
    go_enter Try.func28, Try.ntmps28
    go_wp2_with fail
    go_ret
    exact ⟨rfl, rfl⟩
  by_cases h1 : n = 1
  · subst h1
    obtain rfl := HR.out
    go_enter Try.func28, Try.ntmps28
    go_wp2_with fail
    go_ret
    exact ⟨rfl, rfl⟩
  by_cases h0 : n = 0
  · subst h0
    obtain rfl := HR.out
    go_enter Try.func28, Try.ntmps28
    go_wp2_with fail
    go_ret
    exact ⟨rfl, rfl⟩
  have b3 := beqF h3
  have b2 := beqF h2
  have b1 := beqF h1
  have b0 := beqF h0
  obtain rfl : r = [] := by rw [← HR.out, probeT, if_pos (by omega)]
  clear h3 h2 h1 h0 HR
  go_enter Try.func28, Try.ntmps28
  go_wp2_with fail
  go_ret
  exact ⟨rfl, rfl⟩
end Go.Proofs.Ytcphneofdjelpaa.W
