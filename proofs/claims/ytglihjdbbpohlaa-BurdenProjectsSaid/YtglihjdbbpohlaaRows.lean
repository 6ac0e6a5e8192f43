/-
  No cell of these rows narrows 'for every input' (looked for: loops, veiled, ifaces, maps, wideKeys, modest, calm, conditions, laid).
  DERIVED. THE GIVEN ROWS OF THIS SEAT. 12 by the template 'for every input the law returns true; each argument reads behind the call as it read before'; 0 by the template 'total and deterministic' (their statements: YtglihjdbbpohlaaTotals.lean).
  GIVEN WITH THE SEED: the statements are not yours to turn. If you find one false, say at which input.
  Laid BY PROGRAM, IN A SANDBOX (cutbox-rows.mjs): the forced cells as the released guide's own fill.sh prints them over the translation 9984cc8fdbec569f… (all of the seat's roots in one cut). By AI agents, Wed Nov 11 2026. No macro, syntax, notation, axiom, sorry.
-/
import Derived.Test.YtglihjdbbpohlaaChecked
import GoSem.Claim
import GoSem.ClaimJoined
import GoSem.ClaimMapViews
import Derived.JoinedTies
import Derived.KernelRfl
namespace Go.Proofs.Ytglihjdbbpohlaa
/- THE CELL 'sum', in the pinned program and in every row, IS THE sha256 OF THE DUMP (.gsa) THAT YtglihjdbbpohlaaProg.lean LOADS. Nothing in Lean hashes anything: it is a label: what it is worth is what the hold of that sum in a sandbox is worth. -/
noncomputable def Try.pinned : Pinned := { name := "ytglihjdbbpohlaa", sum := "9984cc8fdbec569f743421a4fd896206bba2e78a33392e3ab7d3e4dd02d9594f", checked := Try.checked }
namespace Rows
def none {H : Type} : Left H := { results := [], args := [] }

/-- 'longshorelaw04.SizeReads': WHATEVER THE INPUT: true; the input reads as it did. -/
def sizeReadsSpec : ChangeSpec := { name := "sizeReads", fn := fun _ => fun
  | [d] => { results := [.lit (.bool true)], args := [d] }
  | _ => none }
def sizeReadsRow : OpenClaim := { program := "ytglihjdbbpohlaa", sum := "9984cc8fdbec569f743421a4fd896206bba2e78a33392e3ab7d3e4dd02d9594f", func := "longshore/longshorelaw04.SizeReads", spec := "sizeReads", apart := false }
def SizeReadsSaid : Prop := sizeReadsRow.holds Try.pinned (OpenSpec.ofChange sizeReadsSpec)

/-- ITS FALSE NEIGHBOUR: 'it returns false'. Refute it at one input. -/
def sizeReadsWrong : ChangeSpec := { name := "sizeReads", fn := fun _ => fun
  | [d] => { results := [.lit (.bool false)], args := [d] }
  | _ => none }
def SizeReadsWrongFalsely : Prop := sizeReadsRow.holds Try.pinned (OpenSpec.ofChange sizeReadsWrong)

/-- 'longshorelaw04.SizeBack': WHATEVER THE INPUT: true; the input reads as it did. -/
def sizeBackSpec : ChangeSpec := { name := "sizeBack", fn := fun _ => fun
  | [d1, d2] => { results := [.lit (.bool true)], args := [d1, d2] }
  | _ => none }
def sizeBackRow : OpenClaim := { program := "ytglihjdbbpohlaa", sum := "9984cc8fdbec569f743421a4fd896206bba2e78a33392e3ab7d3e4dd02d9594f", func := "longshore/longshorelaw04.SizeBack", spec := "sizeBack", apart := false }
def SizeBackSaid : Prop := sizeBackRow.holds Try.pinned (OpenSpec.ofChange sizeBackSpec)

/-- ITS FALSE NEIGHBOUR: 'it returns false'. Refute it at one input. -/
def sizeBackWrong : ChangeSpec := { name := "sizeBack", fn := fun _ => fun
  | [d1, d2] => { results := [.lit (.bool false)], args := [d1, d2] }
  | _ => none }
def SizeBackWrongFalsely : Prop := sizeBackRow.holds Try.pinned (OpenSpec.ofChange sizeBackWrong)

/-- 'longshorelaw01.DigitReads': WHATEVER THE INPUT: true; the input reads as it did. -/
def digitReadsSpec : ChangeSpec := { name := "digitReads", fn := fun _ => fun
  | [d1, d2] => { results := [.lit (.bool true)], args := [d1, d2] }
  | _ => none }
def digitReadsRow : OpenClaim := { program := "ytglihjdbbpohlaa", sum := "9984cc8fdbec569f743421a4fd896206bba2e78a33392e3ab7d3e4dd02d9594f", func := "longshore/longshorelaw01.DigitReads", spec := "digitReads", apart := false }
def DigitReadsSaid : Prop := digitReadsRow.holds Try.pinned (OpenSpec.ofChange digitReadsSpec)

/-- ITS FALSE NEIGHBOUR: 'it returns false'. Refute it at one input. -/
def digitReadsWrong : ChangeSpec := { name := "digitReads", fn := fun _ => fun
  | [d1, d2] => { results := [.lit (.bool false)], args := [d1, d2] }
  | _ => none }
def DigitReadsWrongFalsely : Prop := digitReadsRow.holds Try.pinned (OpenSpec.ofChange digitReadsWrong)

/-- 'longshorelaw28.BurdenAdds': WHATEVER THE INPUT: true; the input reads as it did. -/
def burdenAddsSpec : ChangeSpec := { name := "burdenAdds", fn := fun _ => fun
  | [d1, d2] => { results := [.lit (.bool true)], args := [d1, d2] }
  | _ => none }
def burdenAddsRow : OpenClaim := { program := "ytglihjdbbpohlaa", sum := "9984cc8fdbec569f743421a4fd896206bba2e78a33392e3ab7d3e4dd02d9594f", func := "longshore/longshorelaw28.BurdenAdds", spec := "burdenAdds", apart := false }
def BurdenAddsSaid : Prop := burdenAddsRow.holds Try.pinned (OpenSpec.ofChange burdenAddsSpec)

/-- ITS FALSE NEIGHBOUR: 'it returns false'. Refute it at one input. -/
def burdenAddsWrong : ChangeSpec := { name := "burdenAdds", fn := fun _ => fun
  | [d1, d2] => { results := [.lit (.bool false)], args := [d1, d2] }
  | _ => none }
def BurdenAddsWrongFalsely : Prop := burdenAddsRow.holds Try.pinned (OpenSpec.ofChange burdenAddsWrong)

/-- 'longshorelaw28.BurdenFits': WHATEVER THE INPUT: true; the input reads as it did. -/
def burdenFitsSpec : ChangeSpec := { name := "burdenFits", fn := fun _ => fun
  | [d1, d2, d3] => { results := [.lit (.bool true)], args := [d1, d2, d3] }
  | _ => none }
def burdenFitsRow : OpenClaim := { program := "ytglihjdbbpohlaa", sum := "9984cc8fdbec569f743421a4fd896206bba2e78a33392e3ab7d3e4dd02d9594f", func := "longshore/longshorelaw28.BurdenFits", spec := "burdenFits", apart := false }
def BurdenFitsSaid : Prop := burdenFitsRow.holds Try.pinned (OpenSpec.ofChange burdenFitsSpec)

/-- ITS FALSE NEIGHBOUR: 'it returns false'. Refute it at one input. -/
def burdenFitsWrong : ChangeSpec := { name := "burdenFits", fn := fun _ => fun
  | [d1, d2, d3] => { results := [.lit (.bool false)], args := [d1, d2, d3] }
  | _ => none }
def BurdenFitsWrongFalsely : Prop := burdenFitsRow.holds Try.pinned (OpenSpec.ofChange burdenFitsWrong)

/-- 'longshorelaw01.DigitTexts': WHATEVER THE INPUT: true; the input reads as it did. -/
def digitTextsSpec : ChangeSpec := { name := "digitTexts", fn := fun _ => fun
  | [d] => { results := [.lit (.bool true)], args := [d] }
  | _ => none }
def digitTextsRow : OpenClaim := { program := "ytglihjdbbpohlaa", sum := "9984cc8fdbec569f743421a4fd896206bba2e78a33392e3ab7d3e4dd02d9594f", func := "longshore/longshorelaw01.DigitTexts", spec := "digitTexts", apart := false }
def DigitTextsSaid : Prop := digitTextsRow.holds Try.pinned (OpenSpec.ofChange digitTextsSpec)

/-- ITS FALSE NEIGHBOUR: 'it returns false'. Refute it at one input. -/
def digitTextsWrong : ChangeSpec := { name := "digitTexts", fn := fun _ => fun
  | [d] => { results := [.lit (.bool false)], args := [d] }
  | _ => none }
def DigitTextsWrongFalsely : Prop := digitTextsRow.holds Try.pinned (OpenSpec.ofChange digitTextsWrong)

/-- 'longshorelaw04.SizeWrites': WHATEVER THE INPUT: true; the input reads as it did. -/
def sizeWritesSpec : ChangeSpec := { name := "sizeWrites", fn := fun _ => fun
  | [d] => { results := [.lit (.bool true)], args := [d] }
  | _ => none }
def sizeWritesRow : OpenClaim := { program := "ytglihjdbbpohlaa", sum := "9984cc8fdbec569f743421a4fd896206bba2e78a33392e3ab7d3e4dd02d9594f", func := "longshore/longshorelaw04.SizeWrites", spec := "sizeWrites", apart := false }
def SizeWritesSaid : Prop := sizeWritesRow.holds Try.pinned (OpenSpec.ofChange sizeWritesSpec)

/-- ITS FALSE NEIGHBOUR: 'it returns false'. Refute it at one input. -/
def sizeWritesWrong : ChangeSpec := { name := "sizeWrites", fn := fun _ => fun
  | [d] => { results := [.lit (.bool false)], args := [d] }
  | _ => none }
def SizeWritesWrongFalsely : Prop := sizeWritesRow.holds Try.pinned (OpenSpec.ofChange sizeWritesWrong)

/-- 'longshorelaw28.BurdenProjects': WHATEVER THE INPUT: true; the input reads as it did. -/
def burdenProjectsSpec : ChangeSpec := { name := "burdenProjects", fn := fun _ => fun
  | [d] => { results := [.lit (.bool true)], args := [d] }
  | _ => none }
def burdenProjectsRow : OpenClaim := { program := "ytglihjdbbpohlaa", sum := "9984cc8fdbec569f743421a4fd896206bba2e78a33392e3ab7d3e4dd02d9594f", func := "longshore/longshorelaw28.BurdenProjects", spec := "burdenProjects", apart := false }
def BurdenProjectsSaid : Prop := burdenProjectsRow.holds Try.pinned (OpenSpec.ofChange burdenProjectsSpec)

/-- ITS FALSE NEIGHBOUR: 'it returns false'. Refute it at one input. -/
def burdenProjectsWrong : ChangeSpec := { name := "burdenProjects", fn := fun _ => fun
  | [d] => { results := [.lit (.bool false)], args := [d] }
  | _ => none }
def BurdenProjectsWrongFalsely : Prop := burdenProjectsRow.holds Try.pinned (OpenSpec.ofChange burdenProjectsWrong)

/-- 'longshorelaw01.DigitBack': WHATEVER THE INPUT: true; the input reads as it did. -/
def digitBackSpec : ChangeSpec := { name := "digitBack", fn := fun _ => fun
  | [d1, d2] => { results := [.lit (.bool true)], args := [d1, d2] }
  | _ => none }
def digitBackRow : OpenClaim := { program := "ytglihjdbbpohlaa", sum := "9984cc8fdbec569f743421a4fd896206bba2e78a33392e3ab7d3e4dd02d9594f", func := "longshore/longshorelaw01.DigitBack", spec := "digitBack", apart := false }
def DigitBackSaid : Prop := digitBackRow.holds Try.pinned (OpenSpec.ofChange digitBackSpec)

/-- ITS FALSE NEIGHBOUR: 'it returns false'. Refute it at one input. -/
def digitBackWrong : ChangeSpec := { name := "digitBack", fn := fun _ => fun
  | [d1, d2] => { results := [.lit (.bool false)], args := [d1, d2] }
  | _ => none }
def DigitBackWrongFalsely : Prop := digitBackRow.holds Try.pinned (OpenSpec.ofChange digitBackWrong)

/-- 'longshorelaw03.DurReads': WHATEVER THE INPUT: true; the input reads as it did. -/
def durReadsSpec : ChangeSpec := { name := "durReads", fn := fun _ => fun
  | [d] => { results := [.lit (.bool true)], args := [d] }
  | _ => none }
def durReadsRow : OpenClaim := { program := "ytglihjdbbpohlaa", sum := "9984cc8fdbec569f743421a4fd896206bba2e78a33392e3ab7d3e4dd02d9594f", func := "longshore/longshorelaw03.DurReads", spec := "durReads", apart := false }
def DurReadsSaid : Prop := durReadsRow.holds Try.pinned (OpenSpec.ofChange durReadsSpec)

/-- ITS FALSE NEIGHBOUR: 'it returns false'. Refute it at one input. -/
def durReadsWrong : ChangeSpec := { name := "durReads", fn := fun _ => fun
  | [d] => { results := [.lit (.bool false)], args := [d] }
  | _ => none }
def DurReadsWrongFalsely : Prop := durReadsRow.holds Try.pinned (OpenSpec.ofChange durReadsWrong)

/-- 'longshorelaw03.DurBack': WHATEVER THE INPUT: true; the input reads as it did. -/
def durBackSpec : ChangeSpec := { name := "durBack", fn := fun _ => fun
  | [d1, d2, d3] => { results := [.lit (.bool true)], args := [d1, d2, d3] }
  | _ => none }
def durBackRow : OpenClaim := { program := "ytglihjdbbpohlaa", sum := "9984cc8fdbec569f743421a4fd896206bba2e78a33392e3ab7d3e4dd02d9594f", func := "longshore/longshorelaw03.DurBack", spec := "durBack", apart := false }
def DurBackSaid : Prop := durBackRow.holds Try.pinned (OpenSpec.ofChange durBackSpec)

/-- ITS FALSE NEIGHBOUR: 'it returns false'. Refute it at one input. -/
def durBackWrong : ChangeSpec := { name := "durBack", fn := fun _ => fun
  | [d1, d2, d3] => { results := [.lit (.bool false)], args := [d1, d2, d3] }
  | _ => none }
def DurBackWrongFalsely : Prop := durBackRow.holds Try.pinned (OpenSpec.ofChange durBackWrong)

/-- 'longshorelaw03.DurReckons': WHATEVER THE INPUT: true; the input reads as it did. -/
def durReckonsSpec : ChangeSpec := { name := "durReckons", fn := fun _ => fun
  | [d1, d2] => { results := [.lit (.bool true)], args := [d1, d2] }
  | _ => none }
def durReckonsRow : OpenClaim := { program := "ytglihjdbbpohlaa", sum := "9984cc8fdbec569f743421a4fd896206bba2e78a33392e3ab7d3e4dd02d9594f", func := "longshore/longshorelaw03.DurReckons", spec := "durReckons", apart := false }
def DurReckonsSaid : Prop := durReckonsRow.holds Try.pinned (OpenSpec.ofChange durReckonsSpec)

/-- ITS FALSE NEIGHBOUR: 'it returns false'. Refute it at one input. -/
def durReckonsWrong : ChangeSpec := { name := "durReckons", fn := fun _ => fun
  | [d1, d2] => { results := [.lit (.bool false)], args := [d1, d2] }
  | _ => none }
def DurReckonsWrongFalsely : Prop := durReckonsRow.holds Try.pinned (OpenSpec.ofChange durReckonsWrong)

/- THE SECOND FORM. 'bulk': how many values and letters a reading holds, each counted each time it is reached (what is shared counts as often as it is met; a slice's spare places count too). A statement '..UptoSaid' is the law's where the arguments, and the package variables that the reading takes, are together of bulk at most 1048576: NARROWER than '..Said'. Prove '..Said' where nothing that the law and all that it calls make is longer than what came in: it says more and counts as full. Else prove '..UptoSaid'. A law counts once. -/
mutual
def uptoBulk {H : Type} : DataW H → Nat
  | .lit (.string bytes) => bytes.length + 1
  | .lit _ => 1
  | .nil => 1
  | .ptr d => uptoBulk d + 1
  | .slice elems spare => uptoBulkAll elems + uptoBulkAll spare + 1
  | .agg parts => uptoBulkAll parts + 1
  | .iface _ d => uptoBulk d + 1
  | .map entries => uptoBulkEntries entries + 1
  | .held _ => 1
def uptoBulkAll {H : Type} : List (DataW H) → Nat
  | [] => 0
  | d :: r => uptoBulk d + uptoBulkAll r
def uptoBulkEntries {H : Type} : List (Lit × DataW H) → Nat
  | [] => 0
  | x :: r => uptoBulkEntry x + uptoBulkEntries r
def uptoBulkEntry {H : Type} : Lit × DataW H → Nat
  | (.string bytes, d) => bytes.length + uptoBulk d + 1
  | (_, d) => uptoBulk d + 1
 end
def uptoSmall : (H : Type) → List (DataW H) → Bool := fun _ ds => decide (uptoBulkAll ds ≤ 1048576)
def OpenSpec.upto (s : _root_.Go.ChangeSpec) : _root_.Go.OpenSpec := { _root_.Go.OpenSpec.ofChange s with cond := some uptoSmall }

/-- 'longshorelaw04.SizeReads', WHERE WHAT IT READS IS OF BULK AT MOST 1048576: true; the input reads as it did. -/
def sizeReadsUptoRow : OpenClaim := { program := "ytglihjdbbpohlaa", sum := "9984cc8fdbec569f743421a4fd896206bba2e78a33392e3ab7d3e4dd02d9594f", func := "longshore/longshorelaw04.SizeReads", spec := "sizeReads", apart := false, narrowed := true }
def SizeReadsUptoSaid : Prop := sizeReadsUptoRow.holds Try.pinned (OpenSpec.upto sizeReadsSpec)

/-- 'longshorelaw04.SizeBack', WHERE WHAT IT READS IS OF BULK AT MOST 1048576: true; the input reads as it did. -/
def sizeBackUptoRow : OpenClaim := { program := "ytglihjdbbpohlaa", sum := "9984cc8fdbec569f743421a4fd896206bba2e78a33392e3ab7d3e4dd02d9594f", func := "longshore/longshorelaw04.SizeBack", spec := "sizeBack", apart := false, narrowed := true }
def SizeBackUptoSaid : Prop := sizeBackUptoRow.holds Try.pinned (OpenSpec.upto sizeBackSpec)

/-- 'longshorelaw01.DigitReads', WHERE WHAT IT READS IS OF BULK AT MOST 1048576: true; the input reads as it did. -/
def digitReadsUptoRow : OpenClaim := { program := "ytglihjdbbpohlaa", sum := "9984cc8fdbec569f743421a4fd896206bba2e78a33392e3ab7d3e4dd02d9594f", func := "longshore/longshorelaw01.DigitReads", spec := "digitReads", apart := false, narrowed := true }
def DigitReadsUptoSaid : Prop := digitReadsUptoRow.holds Try.pinned (OpenSpec.upto digitReadsSpec)

/-- 'longshorelaw28.BurdenAdds', WHERE WHAT IT READS IS OF BULK AT MOST 1048576: true; the input reads as it did. -/
def burdenAddsUptoRow : OpenClaim := { program := "ytglihjdbbpohlaa", sum := "9984cc8fdbec569f743421a4fd896206bba2e78a33392e3ab7d3e4dd02d9594f", func := "longshore/longshorelaw28.BurdenAdds", spec := "burdenAdds", apart := false, narrowed := true }
def BurdenAddsUptoSaid : Prop := burdenAddsUptoRow.holds Try.pinned (OpenSpec.upto burdenAddsSpec)

/-- 'longshorelaw28.BurdenFits', WHERE WHAT IT READS IS OF BULK AT MOST 1048576: true; the input reads as it did. -/
def burdenFitsUptoRow : OpenClaim := { program := "ytglihjdbbpohlaa", sum := "9984cc8fdbec569f743421a4fd896206bba2e78a33392e3ab7d3e4dd02d9594f", func := "longshore/longshorelaw28.BurdenFits", spec := "burdenFits", apart := false, narrowed := true }
def BurdenFitsUptoSaid : Prop := burdenFitsUptoRow.holds Try.pinned (OpenSpec.upto burdenFitsSpec)

/-- 'longshorelaw01.DigitTexts', WHERE WHAT IT READS IS OF BULK AT MOST 1048576: true; the input reads as it did. -/
def digitTextsUptoRow : OpenClaim := { program := "ytglihjdbbpohlaa", sum := "9984cc8fdbec569f743421a4fd896206bba2e78a33392e3ab7d3e4dd02d9594f", func := "longshore/longshorelaw01.DigitTexts", spec := "digitTexts", apart := false, narrowed := true }
def DigitTextsUptoSaid : Prop := digitTextsUptoRow.holds Try.pinned (OpenSpec.upto digitTextsSpec)

/-- 'longshorelaw04.SizeWrites', WHERE WHAT IT READS IS OF BULK AT MOST 1048576: true; the input reads as it did. -/
def sizeWritesUptoRow : OpenClaim := { program := "ytglihjdbbpohlaa", sum := "9984cc8fdbec569f743421a4fd896206bba2e78a33392e3ab7d3e4dd02d9594f", func := "longshore/longshorelaw04.SizeWrites", spec := "sizeWrites", apart := false, narrowed := true }
def SizeWritesUptoSaid : Prop := sizeWritesUptoRow.holds Try.pinned (OpenSpec.upto sizeWritesSpec)

/-- 'longshorelaw28.BurdenProjects', WHERE WHAT IT READS IS OF BULK AT MOST 1048576: true; the input reads as it did. -/
def burdenProjectsUptoRow : OpenClaim := { program := "ytglihjdbbpohlaa", sum := "9984cc8fdbec569f743421a4fd896206bba2e78a33392e3ab7d3e4dd02d9594f", func := "longshore/longshorelaw28.BurdenProjects", spec := "burdenProjects", apart := false, narrowed := true }
def BurdenProjectsUptoSaid : Prop := burdenProjectsUptoRow.holds Try.pinned (OpenSpec.upto burdenProjectsSpec)

/-- 'longshorelaw01.DigitBack', WHERE WHAT IT READS IS OF BULK AT MOST 1048576: true; the input reads as it did. -/
def digitBackUptoRow : OpenClaim := { program := "ytglihjdbbpohlaa", sum := "9984cc8fdbec569f743421a4fd896206bba2e78a33392e3ab7d3e4dd02d9594f", func := "longshore/longshorelaw01.DigitBack", spec := "digitBack", apart := false, narrowed := true }
def DigitBackUptoSaid : Prop := digitBackUptoRow.holds Try.pinned (OpenSpec.upto digitBackSpec)

/-- 'longshorelaw03.DurReads', WHERE WHAT IT READS IS OF BULK AT MOST 1048576: true; the input reads as it did. -/
def durReadsUptoRow : OpenClaim := { program := "ytglihjdbbpohlaa", sum := "9984cc8fdbec569f743421a4fd896206bba2e78a33392e3ab7d3e4dd02d9594f", func := "longshore/longshorelaw03.DurReads", spec := "durReads", apart := false, narrowed := true }
def DurReadsUptoSaid : Prop := durReadsUptoRow.holds Try.pinned (OpenSpec.upto durReadsSpec)

/-- 'longshorelaw03.DurBack', WHERE WHAT IT READS IS OF BULK AT MOST 1048576: true; the input reads as it did. -/
def durBackUptoRow : OpenClaim := { program := "ytglihjdbbpohlaa", sum := "9984cc8fdbec569f743421a4fd896206bba2e78a33392e3ab7d3e4dd02d9594f", func := "longshore/longshorelaw03.DurBack", spec := "durBack", apart := false, narrowed := true }
def DurBackUptoSaid : Prop := durBackUptoRow.holds Try.pinned (OpenSpec.upto durBackSpec)

/-- 'longshorelaw03.DurReckons', WHERE WHAT IT READS IS OF BULK AT MOST 1048576: true; the input reads as it did. -/
def durReckonsUptoRow : OpenClaim := { program := "ytglihjdbbpohlaa", sum := "9984cc8fdbec569f743421a4fd896206bba2e78a33392e3ab7d3e4dd02d9594f", func := "longshore/longshorelaw03.DurReckons", spec := "durReckons", apart := false, narrowed := true }
def DurReckonsUptoSaid : Prop := durReckonsUptoRow.holds Try.pinned (OpenSpec.upto durReckonsSpec)

end Rows
end Go.Proofs.Ytglihjdbbpohlaa
