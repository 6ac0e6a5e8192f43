/- Plain laws on the readers of numbers and thousandths; no program in sight. -/
import Derived.Test.YtglihjdbbpohlaaPlM
namespace Go.Proofs.Ytglihjdbbpohlaa.Pl

/-- Parse: any number -/
def prsE (l : List UInt8) : Int :=
  if l.headD 0 = 45 then (if cntE l.tail 9007199254740992 = 0 ∧ cntV l.tail 9007199254740992 = 0 then 3 else cntE l.tail 9007199254740992) else cntE l 9007199254740992
def prsV (l : List UInt8) : Int := if l.headD 0 = 45 then -cntV l.tail 9007199254740992 else cntV l 9007199254740992
theorem prsE_pos {l : List UInt8} (h : l.headD 0 ≠ 45) : prsE l = cntE l 9007199254740992 := by unfold prsE; rw [if_neg h]
theorem prsV_pos {l : List UInt8} (h : l.headD 0 ≠ 45) : prsV l = cntV l 9007199254740992 := by unfold prsV; rw [if_neg h]
theorem prsE_neg {l : List UInt8} (h : l.headD 0 = 45) : prsE l = if cntE l.tail 9007199254740992 = 0 ∧ cntV l.tail 9007199254740992 = 0 then 3 else cntE l.tail 9007199254740992 := by unfold prsE; rw [if_pos h]
theorem prsV_neg {l : List UInt8} (h : l.headD 0 = 45) : prsV l = -cntV l.tail 9007199254740992 := by unfold prsV; rw [if_pos h]
theorem drop_one (l : List UInt8) : l.drop 1 = l.tail := by cases l <;> rfl

end Go.Proofs.Ytglihjdbbpohlaa.Pl
