/- Contracts said from an elder world. -/
import Derived.Test.YtglihjdbbpohlaaChecked
import Derived.WalkKit
import Derived.Deep.QuietTactic
namespace Go.Proofs.Ytglihjdbbpohlaa.W
open Go.RowKit

theorem rl {P : Program} {f : FuncId} {args : Array Go.Value} {w W : World} {B : Nat} {v : Go.Value} (hb : Below B W w) (hB : B ≤ w.heap.size)
    (h : Calls P f args w fun e w' => e = .returned v ∧ Below w.heap.size w w') : Calls P f args w fun e w' => e = .returned v ∧ Below B W w' ∧ B ≤ w'.heap.size :=
  h.mono fun _ _ ⟨he, hw⟩ => ⟨he, hb.trans (hw.mono hB), Nat.le_trans hB hw.size⟩
theorem rlD {P : Program} {f : FuncId} {args : Array Go.Value} {w W : World} {B : Nat} {v : Go.Value} (hb : Below B W w) (hB : B ≤ w.heap.size)
    (h : Calls P f args w fun e w' => e = .returned v ∧ ∃ n, w' = w.drewN n) : Calls P f args w fun e w' => e = .returned v ∧ Below B W w' ∧ B ≤ w'.heap.size :=
  h.mono fun _ _ ⟨he, n, hw⟩ => ⟨he, by subst hw; exact ⟨hb.os, hb.tape, hb.output, hb.size, hb.block⟩, by subst hw; exact hB⟩
end Go.Proofs.Ytglihjdbbpohlaa.W
