/-
  No cell of these rows narrows 'for every input' (looked for: loops, veiled, ifaces, maps, wideKeys, modest, calm, conditions, laid).
  DERIVED. THE GIVEN ROWS OF THIS SEAT. 10 by the template 'for every input the law returns true; each argument reads behind the call as it read before'; 0 by the template 'total and deterministic' (their statements: YtaileihnkmjfiaaTotals.lean).
  GIVEN WITH THE SEED: the statements are not yours to turn. If you find one false, say at which input.
  Laid BY PROGRAM, IN A SANDBOX (cutbox-rows.mjs): the forced cells as the released guide's own fill.sh prints them over the translation de603861bb0139b1… (all of the seat's roots in one cut). By AI agents, Wed Nov 11 2026. No macro, syntax, notation, axiom, sorry.
-/
import Derived.Test.YtaileihnkmjfiaaChecked
import GoSem.Claim
import GoSem.ClaimJoined
import GoSem.ClaimMapViews
import Derived.JoinedTies
import Derived.KernelRfl
namespace Go.Proofs.Ytaileihnkmjfiaa
/- THE CELL 'sum', in the pinned program and in every row, IS THE sha256 OF THE DUMP (.gsa) THAT YtaileihnkmjfiaaProg.lean LOADS. Nothing in Lean hashes anything: it is a label: what it is worth is what the hold of that sum in a sandbox is worth. -/
noncomputable def Try.pinned : Pinned := { name := "ytaileihnkmjfiaa", sum := "de603861bb0139b1f8b81819687297e6fec1da912dcc9b370814f9f4adc8a33e", checked := Try.checked }
namespace Rows
def none {H : Type} : Left H := { results := [], args := [] }

/-- 'cadencelaw03.PropClosed': WHATEVER THE INPUT: true; the input reads as it did. -/
def propClosedSpec : ChangeSpec := { name := "propClosed", fn := fun _ => fun
  | [d1, d2] => { results := [.lit (.bool true)], args := [d1, d2] }
  | _ => none }
def propClosedRow : OpenClaim := { program := "ytaileihnkmjfiaa", sum := "de603861bb0139b1f8b81819687297e6fec1da912dcc9b370814f9f4adc8a33e", func := "cadence/cadencelaw03.PropClosed", spec := "propClosed", apart := false }
def PropClosedSaid : Prop := propClosedRow.holds Try.pinned (OpenSpec.ofChange propClosedSpec)

/-- ITS FALSE NEIGHBOUR: 'it returns false'. Refute it at one input. -/
def propClosedWrong : ChangeSpec := { name := "propClosed", fn := fun _ => fun
  | [d1, d2] => { results := [.lit (.bool false)], args := [d1, d2] }
  | _ => none }
def PropClosedWrongFalsely : Prop := propClosedRow.holds Try.pinned (OpenSpec.ofChange propClosedWrong)

/-- 'cadencelaw03.PropFollows': WHATEVER THE INPUT: true; the input reads as it did. -/
def propFollowsSpec : ChangeSpec := { name := "propFollows", fn := fun _ => fun
  | [d1, d2, d3] => { results := [.lit (.bool true)], args := [d1, d2, d3] }
  | _ => none }
def propFollowsRow : OpenClaim := { program := "ytaileihnkmjfiaa", sum := "de603861bb0139b1f8b81819687297e6fec1da912dcc9b370814f9f4adc8a33e", func := "cadence/cadencelaw03.PropFollows", spec := "propFollows", apart := false }
def PropFollowsSaid : Prop := propFollowsRow.holds Try.pinned (OpenSpec.ofChange propFollowsSpec)

/-- ITS FALSE NEIGHBOUR: 'it returns false'. Refute it at one input. -/
def propFollowsWrong : ChangeSpec := { name := "propFollows", fn := fun _ => fun
  | [d1, d2, d3] => { results := [.lit (.bool false)], args := [d1, d2, d3] }
  | _ => none }
def PropFollowsWrongFalsely : Prop := propFollowsRow.holds Try.pinned (OpenSpec.ofChange propFollowsWrong)

/-- 'cadencelaw03.PropMakes': WHATEVER THE INPUT: true; the input reads as it did. -/
def propMakesSpec : ChangeSpec := { name := "propMakes", fn := fun _ => fun
  | [d] => { results := [.lit (.bool true)], args := [d] }
  | _ => none }
def propMakesRow : OpenClaim := { program := "ytaileihnkmjfiaa", sum := "de603861bb0139b1f8b81819687297e6fec1da912dcc9b370814f9f4adc8a33e", func := "cadence/cadencelaw03.PropMakes", spec := "propMakes", apart := false }
def PropMakesSaid : Prop := propMakesRow.holds Try.pinned (OpenSpec.ofChange propMakesSpec)

/-- ITS FALSE NEIGHBOUR: 'it returns false'. Refute it at one input. -/
def propMakesWrong : ChangeSpec := { name := "propMakes", fn := fun _ => fun
  | [d] => { results := [.lit (.bool false)], args := [d] }
  | _ => none }
def PropMakesWrongFalsely : Prop := propMakesRow.holds Try.pinned (OpenSpec.ofChange propMakesWrong)

/-- 'cadencelaw03.PropAdds': WHATEVER THE INPUT: true; the input reads as it did. -/
def propAddsSpec : ChangeSpec := { name := "propAdds", fn := fun _ => fun
  | [d1, d2] => { results := [.lit (.bool true)], args := [d1, d2] }
  | _ => none }
def propAddsRow : OpenClaim := { program := "ytaileihnkmjfiaa", sum := "de603861bb0139b1f8b81819687297e6fec1da912dcc9b370814f9f4adc8a33e", func := "cadence/cadencelaw03.PropAdds", spec := "propAdds", apart := false }
def PropAddsSaid : Prop := propAddsRow.holds Try.pinned (OpenSpec.ofChange propAddsSpec)

/-- ITS FALSE NEIGHBOUR: 'it returns false'. Refute it at one input. -/
def propAddsWrong : ChangeSpec := { name := "propAdds", fn := fun _ => fun
  | [d1, d2] => { results := [.lit (.bool false)], args := [d1, d2] }
  | _ => none }
def PropAddsWrongFalsely : Prop := propAddsRow.holds Try.pinned (OpenSpec.ofChange propAddsWrong)

/-- 'cadencelaw03.PropDecides': WHATEVER THE INPUT: true; the input reads as it did. -/
def propDecidesSpec : ChangeSpec := { name := "propDecides", fn := fun _ => fun
  | [d1, d2] => { results := [.lit (.bool true)], args := [d1, d2] }
  | _ => none }
def propDecidesRow : OpenClaim := { program := "ytaileihnkmjfiaa", sum := "de603861bb0139b1f8b81819687297e6fec1da912dcc9b370814f9f4adc8a33e", func := "cadence/cadencelaw03.PropDecides", spec := "propDecides", apart := false }
def PropDecidesSaid : Prop := propDecidesRow.holds Try.pinned (OpenSpec.ofChange propDecidesSpec)

/-- ITS FALSE NEIGHBOUR: 'it returns false'. Refute it at one input. -/
def propDecidesWrong : ChangeSpec := { name := "propDecides", fn := fun _ => fun
  | [d1, d2] => { results := [.lit (.bool false)], args := [d1, d2] }
  | _ => none }
def PropDecidesWrongFalsely : Prop := propDecidesRow.holds Try.pinned (OpenSpec.ofChange propDecidesWrong)

/-- 'cadencelaw03.PropCloses': WHATEVER THE INPUT: true; the input reads as it did. -/
def propClosesSpec : ChangeSpec := { name := "propCloses", fn := fun _ => fun
  | [d1, d2] => { results := [.lit (.bool true)], args := [d1, d2] }
  | _ => none }
def propClosesRow : OpenClaim := { program := "ytaileihnkmjfiaa", sum := "de603861bb0139b1f8b81819687297e6fec1da912dcc9b370814f9f4adc8a33e", func := "cadence/cadencelaw03.PropCloses", spec := "propCloses", apart := false }
def PropClosesSaid : Prop := propClosesRow.holds Try.pinned (OpenSpec.ofChange propClosesSpec)

/-- ITS FALSE NEIGHBOUR: 'it returns false'. Refute it at one input. -/
def propClosesWrong : ChangeSpec := { name := "propCloses", fn := fun _ => fun
  | [d1, d2] => { results := [.lit (.bool false)], args := [d1, d2] }
  | _ => none }
def PropClosesWrongFalsely : Prop := propClosesRow.holds Try.pinned (OpenSpec.ofChange propClosesWrong)

/-- 'cadencelaw03.PropLooks': WHATEVER THE INPUT: true; the input reads as it did. -/
def propLooksSpec : ChangeSpec := { name := "propLooks", fn := fun _ => fun
  | [d1, d2] => { results := [.lit (.bool true)], args := [d1, d2] }
  | _ => none }
def propLooksRow : OpenClaim := { program := "ytaileihnkmjfiaa", sum := "de603861bb0139b1f8b81819687297e6fec1da912dcc9b370814f9f4adc8a33e", func := "cadence/cadencelaw03.PropLooks", spec := "propLooks", apart := false }
def PropLooksSaid : Prop := propLooksRow.holds Try.pinned (OpenSpec.ofChange propLooksSpec)

/-- ITS FALSE NEIGHBOUR: 'it returns false'. Refute it at one input. -/
def propLooksWrong : ChangeSpec := { name := "propLooks", fn := fun _ => fun
  | [d1, d2] => { results := [.lit (.bool false)], args := [d1, d2] }
  | _ => none }
def PropLooksWrongFalsely : Prop := propLooksRow.holds Try.pinned (OpenSpec.ofChange propLooksWrong)

/-- 'cadencelaw03.PropAll': WHATEVER THE INPUT: true; the input reads as it did. -/
def propAllSpec : ChangeSpec := { name := "propAll", fn := fun _ => fun
  | [d1, d2] => { results := [.lit (.bool true)], args := [d1, d2] }
  | _ => none }
def propAllRow : OpenClaim := { program := "ytaileihnkmjfiaa", sum := "de603861bb0139b1f8b81819687297e6fec1da912dcc9b370814f9f4adc8a33e", func := "cadence/cadencelaw03.PropAll", spec := "propAll", apart := false }
def PropAllSaid : Prop := propAllRow.holds Try.pinned (OpenSpec.ofChange propAllSpec)

/-- ITS FALSE NEIGHBOUR: 'it returns false'. Refute it at one input. -/
def propAllWrong : ChangeSpec := { name := "propAll", fn := fun _ => fun
  | [d1, d2] => { results := [.lit (.bool false)], args := [d1, d2] }
  | _ => none }
def PropAllWrongFalsely : Prop := propAllRow.holds Try.pinned (OpenSpec.ofChange propAllWrong)

/-- 'cadencelaw03.PropOwn': WHATEVER THE INPUT: true; the input reads as it did. -/
def propOwnSpec : ChangeSpec := { name := "propOwn", fn := fun _ => fun
  | [d1, d2] => { results := [.lit (.bool true)], args := [d1, d2] }
  | _ => none }
def propOwnRow : OpenClaim := { program := "ytaileihnkmjfiaa", sum := "de603861bb0139b1f8b81819687297e6fec1da912dcc9b370814f9f4adc8a33e", func := "cadence/cadencelaw03.PropOwn", spec := "propOwn", apart := false }
def PropOwnSaid : Prop := propOwnRow.holds Try.pinned (OpenSpec.ofChange propOwnSpec)

/-- ITS FALSE NEIGHBOUR: 'it returns false'. Refute it at one input. -/
def propOwnWrong : ChangeSpec := { name := "propOwn", fn := fun _ => fun
  | [d1, d2] => { results := [.lit (.bool false)], args := [d1, d2] }
  | _ => none }
def PropOwnWrongFalsely : Prop := propOwnRow.holds Try.pinned (OpenSpec.ofChange propOwnWrong)

/-- 'cadencelaw03.PropReasons': WHATEVER THE INPUT: true; the input reads as it did. -/
def propReasonsSpec : ChangeSpec := { name := "propReasons", fn := fun _ => fun
  | [d1, d2] => { results := [.lit (.bool true)], args := [d1, d2] }
  | _ => none }
def propReasonsRow : OpenClaim := { program := "ytaileihnkmjfiaa", sum := "de603861bb0139b1f8b81819687297e6fec1da912dcc9b370814f9f4adc8a33e", func := "cadence/cadencelaw03.PropReasons", spec := "propReasons", apart := false }
def PropReasonsSaid : Prop := propReasonsRow.holds Try.pinned (OpenSpec.ofChange propReasonsSpec)

/-- ITS FALSE NEIGHBOUR: 'it returns false'. Refute it at one input. -/
def propReasonsWrong : ChangeSpec := { name := "propReasons", fn := fun _ => fun
  | [d1, d2] => { results := [.lit (.bool false)], args := [d1, d2] }
  | _ => none }
def PropReasonsWrongFalsely : Prop := propReasonsRow.holds Try.pinned (OpenSpec.ofChange propReasonsWrong)

/- THE SECOND FORM. 'bulk': how many values and letters a reading holds, each counted each time it is reached (what is shared counts as often as it is met; a slice's spare places count too). A statement '..UptoSaid' is the law's where the arguments, and the package variables that the reading takes, are together of bulk at most 1048576: NARROWER than '..Said'. Prove '..Said' where nothing that the law and all that it calls make is longer than what came in: it says more and counts as full. Else prove '..UptoSaid'. A law counts once. -/
mutual
def uptoBulk {H : Type} : DataW H → Nat
  | .lit (.string bytes) => bytes.length + 1
  | .lit _ => 1
  | .nil => 1
  | .ptr d => uptoBulk d + 1
  | .slice elems spare => uptoBulkAll elems + uptoBulkAll spare + 1
  | .agg parts => uptoBulkAll parts + 1
  | .iface _ d => uptoBulk d + 1
  | .map entries => uptoBulkEntries entries + 1
  | .held _ => 1
def uptoBulkAll {H : Type} : List (DataW H) → Nat
  | [] => 0
  | d :: r => uptoBulk d + uptoBulkAll r
def uptoBulkEntries {H : Type} : List (Lit × DataW H) → Nat
  | [] => 0
  | x :: r => uptoBulkEntry x + uptoBulkEntries r
def uptoBulkEntry {H : Type} : Lit × DataW H → Nat
  | (.string bytes, d) => bytes.length + uptoBulk d + 1
  | (_, d) => uptoBulk d + 1
 end
def uptoSmall : (H : Type) → List (DataW H) → Bool := fun _ ds => decide (uptoBulkAll ds ≤ 1048576)
def OpenSpec.upto (s : _root_.Go.ChangeSpec) : _root_.Go.OpenSpec := { _root_.Go.OpenSpec.ofChange s with cond := some uptoSmall }

/-- 'cadencelaw03.PropClosed', WHERE WHAT IT READS IS OF BULK AT MOST 1048576: true; the input reads as it did. -/
def propClosedUptoRow : OpenClaim := { program := "ytaileihnkmjfiaa", sum := "de603861bb0139b1f8b81819687297e6fec1da912dcc9b370814f9f4adc8a33e", func := "cadence/cadencelaw03.PropClosed", spec := "propClosed", apart := false, narrowed := true }
def PropClosedUptoSaid : Prop := propClosedUptoRow.holds Try.pinned (OpenSpec.upto propClosedSpec)

/-- 'cadencelaw03.PropFollows', WHERE WHAT IT READS IS OF BULK AT MOST 1048576: true; the input reads as it did. -/
def propFollowsUptoRow : OpenClaim := { program := "ytaileihnkmjfiaa", sum := "de603861bb0139b1f8b81819687297e6fec1da912dcc9b370814f9f4adc8a33e", func := "cadence/cadencelaw03.PropFollows", spec := "propFollows", apart := false, narrowed := true }
def PropFollowsUptoSaid : Prop := propFollowsUptoRow.holds Try.pinned (OpenSpec.upto propFollowsSpec)

/-- 'cadencelaw03.PropMakes', WHERE WHAT IT READS IS OF BULK AT MOST 1048576: true; the input reads as it did. -/
def propMakesUptoRow : OpenClaim := { program := "ytaileihnkmjfiaa", sum := "de603861bb0139b1f8b81819687297e6fec1da912dcc9b370814f9f4adc8a33e", func := "cadence/cadencelaw03.PropMakes", spec := "propMakes", apart := false, narrowed := true }
def PropMakesUptoSaid : Prop := propMakesUptoRow.holds Try.pinned (OpenSpec.upto propMakesSpec)

/-- 'cadencelaw03.PropAdds', WHERE WHAT IT READS IS OF BULK AT MOST 1048576: true; the input reads as it did. -/
def propAddsUptoRow : OpenClaim := { program := "ytaileihnkmjfiaa", sum := "de603861bb0139b1f8b81819687297e6fec1da912dcc9b370814f9f4adc8a33e", func := "cadence/cadencelaw03.PropAdds", spec := "propAdds", apart := false, narrowed := true }
def PropAddsUptoSaid : Prop := propAddsUptoRow.holds Try.pinned (OpenSpec.upto propAddsSpec)

/-- 'cadencelaw03.PropDecides', WHERE WHAT IT READS IS OF BULK AT MOST 1048576: true; the input reads as it did. -/
def propDecidesUptoRow : OpenClaim := { program := "ytaileihnkmjfiaa", sum := "de603861bb0139b1f8b81819687297e6fec1da912dcc9b370814f9f4adc8a33e", func := "cadence/cadencelaw03.PropDecides", spec := "propDecides", apart := false, narrowed := true }
def PropDecidesUptoSaid : Prop := propDecidesUptoRow.holds Try.pinned (OpenSpec.upto propDecidesSpec)

/-- 'cadencelaw03.PropCloses', WHERE WHAT IT READS IS OF BULK AT MOST 1048576: true; the input reads as it did. -/
def propClosesUptoRow : OpenClaim := { program := "ytaileihnkmjfiaa", sum := "de603861bb0139b1f8b81819687297e6fec1da912dcc9b370814f9f4adc8a33e", func := "cadence/cadencelaw03.PropCloses", spec := "propCloses", apart := false, narrowed := true }
def PropClosesUptoSaid : Prop := propClosesUptoRow.holds Try.pinned (OpenSpec.upto propClosesSpec)

/-- 'cadencelaw03.PropLooks', WHERE WHAT IT READS IS OF BULK AT MOST 1048576: true; the input reads as it did. -/
def propLooksUptoRow : OpenClaim := { program := "ytaileihnkmjfiaa", sum := "de603861bb0139b1f8b81819687297e6fec1da912dcc9b370814f9f4adc8a33e", func := "cadence/cadencelaw03.PropLooks", spec := "propLooks", apart := false, narrowed := true }
def PropLooksUptoSaid : Prop := propLooksUptoRow.holds Try.pinned (OpenSpec.upto propLooksSpec)

/-- 'cadencelaw03.PropAll', WHERE WHAT IT READS IS OF BULK AT MOST 1048576: true; the input reads as it did. -/
def propAllUptoRow : OpenClaim := { program := "ytaileihnkmjfiaa", sum := "de603861bb0139b1f8b81819687297e6fec1da912dcc9b370814f9f4adc8a33e", func := "cadence/cadencelaw03.PropAll", spec := "propAll", apart := false, narrowed := true }
def PropAllUptoSaid : Prop := propAllUptoRow.holds Try.pinned (OpenSpec.upto propAllSpec)

/-- 'cadencelaw03.PropOwn', WHERE WHAT IT READS IS OF BULK AT MOST 1048576: true; the input reads as it did. -/
def propOwnUptoRow : OpenClaim := { program := "ytaileihnkmjfiaa", sum := "de603861bb0139b1f8b81819687297e6fec1da912dcc9b370814f9f4adc8a33e", func := "cadence/cadencelaw03.PropOwn", spec := "propOwn", apart := false, narrowed := true }
def PropOwnUptoSaid : Prop := propOwnUptoRow.holds Try.pinned (OpenSpec.upto propOwnSpec)

/-- 'cadencelaw03.PropReasons', WHERE WHAT IT READS IS OF BULK AT MOST 1048576: true; the input reads as it did. -/
def propReasonsUptoRow : OpenClaim := { program := "ytaileihnkmjfiaa", sum := "de603861bb0139b1f8b81819687297e6fec1da912dcc9b370814f9f4adc8a33e", func := "cadence/cadencelaw03.PropReasons", spec := "propReasons", apart := false, narrowed := true }
def PropReasonsUptoSaid : Prop := propReasonsUptoRow.holds Try.pinned (OpenSpec.upto propReasonsSpec)

end Rows
end Go.Proofs.Ytaileihnkmjfiaa
