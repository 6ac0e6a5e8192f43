/- The walk of DurReads. -/
import Derived.Test.YtglihjdbbpohlaaLaw3
import Derived.Test.YtglihjdbbpohlaaDur7
namespace Go.Proofs.Ytglihjdbbpohlaa.W
open Go.RowKit Go.Proofs.Ytglihjdbbpohlaa.Pl

theorem kDurReads (s : ByteArray) (w : World) (hs : s.size ≤ maxLen) :
    Calls Try.prog 12 #[.string s] w fun e w' => e = .returned (.bool true) ∧ Below w.heap.size w w' := by
  unfold maxLen at hs
  have hb0 := Below.refl w.heap.size w
  have hB0 : w.heap.size ≤ w.heap.size := Nat.le_refl _
  by_cases h : s.size ≤ 2000
  · have q1 : (durV s.data.toList == durV s.data.toList) = true := beqT rfl
    have q2 : (durE s.data.toList == durE s.data.toList) = true := beqT rfl
    go_enter Try.func12, Try.ntmps12
    go_wp2_with fail
    refine (kDurParse s _ (by omega)).mono ?_
    rintro e w1 ⟨rfl, rfl⟩
    go_wp2_with fail
    refine (rl (by assumption) (by assumption) (kRefDurParse s _ (by omega))).mono ?_
    rintro e w2 ⟨rfl, hb2, hB2⟩
    go_wp2_with fail
    refine (rl (by assumption) (by assumption) (kAwake3 _)).mono ?_
    rintro e w3 ⟨rfl, hb3, hB3⟩
    go_wp2_with fail
    go_ret
    exact ⟨rfl, by assumption⟩
  · go_enter Try.func12, Try.ntmps12
    go_wp2_with fail
    refine (rl (by assumption) (by assumption) (kAwake3 _)).mono ?_
    rintro e w3 ⟨rfl, hb3, hB3⟩
    go_wp2_with fail
    go_ret
    exact ⟨rfl, by assumption⟩
end Go.Proofs.Ytglihjdbbpohlaa.W
