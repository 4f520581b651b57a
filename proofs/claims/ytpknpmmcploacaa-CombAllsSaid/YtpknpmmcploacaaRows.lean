/-
  No cell of these rows narrows 'for every input' (looked for: loops, veiled, ifaces, maps, wideKeys, modest, calm, conditions, laid).
  DERIVED. THE GIVEN ROWS OF THIS SEAT. 12 by the template 'for every input the law returns true; each argument reads behind the call as it read before'; 0 by the template 'total and deterministic' (their statements: YtpknpmmcploacaaTotals.lean).
  GIVEN WITH THE SEED: the statements are not yours to turn. If you find one false, say at which input.
  Laid BY PROGRAM, IN A SANDBOX (cutbox-rows.mjs): the forced cells as the released guide's own fill.sh prints them over the translation 8d619c2c329a596b… (all of the seat's roots in one cut). By AI agents, Wed Nov 11 2026. No macro, syntax, notation, axiom, sorry.
-/
import Derived.Test.YtpknpmmcploacaaChecked
import GoSem.Claim
import GoSem.ClaimJoined
import GoSem.ClaimMapViews
import Derived.JoinedTies
import Derived.KernelRfl
namespace Go.Proofs.Ytpknpmmcploacaa
/- THE CELL 'sum', in the pinned program and in every row, IS THE sha256 OF THE DUMP (.gsa) THAT YtpknpmmcploacaaProg.lean LOADS. Nothing in Lean hashes anything: it is a label: what it is worth is what the hold of that sum in a sandbox is worth. -/
noncomputable def Try.pinned : Pinned := { name := "ytpknpmmcploacaa", sum := "8d619c2c329a596b5ec4c719e2f837741330f3be97fe8620394b17362021bc86", checked := Try.checked }
namespace Rows
def none {H : Type} : Left H := { results := [], args := [] }

/-- 'quicksetlaw.Names': WHATEVER THE INPUT: true; the input reads as it did. -/
def namesSpec : ChangeSpec := { name := "names", fn := fun _ => fun
  | [] => { results := [.lit (.bool true)], args := [] }
  | _ => none }
def namesRow : OpenClaim := { program := "ytpknpmmcploacaa", sum := "8d619c2c329a596b5ec4c719e2f837741330f3be97fe8620394b17362021bc86", func := "quickset/quicksetlaw.Names", spec := "names", apart := false }
def NamesSaid : Prop := namesRow.holds Try.pinned (OpenSpec.ofChange namesSpec)

/-- ITS FALSE NEIGHBOUR: 'it returns false'. Refute it at one input. -/
def namesWrong : ChangeSpec := { name := "names", fn := fun _ => fun
  | [] => { results := [.lit (.bool false)], args := [] }
  | _ => none }
def NamesWrongFalsely : Prop := namesRow.holds Try.pinned (OpenSpec.ofChange namesWrong)

/-- 'quicksetlaw.GeomSpots': WHATEVER THE INPUT: true; the input reads as it did. -/
def geomSpotsSpec : ChangeSpec := { name := "geomSpots", fn := fun _ => fun
  | [d1, d2] => { results := [.lit (.bool true)], args := [d1, d2] }
  | _ => none }
def geomSpotsRow : OpenClaim := { program := "ytpknpmmcploacaa", sum := "8d619c2c329a596b5ec4c719e2f837741330f3be97fe8620394b17362021bc86", func := "quickset/quicksetlaw.GeomSpots", spec := "geomSpots", apart := false }
def GeomSpotsSaid : Prop := geomSpotsRow.holds Try.pinned (OpenSpec.ofChange geomSpotsSpec)

/-- ITS FALSE NEIGHBOUR: 'it returns false'. Refute it at one input. -/
def geomSpotsWrong : ChangeSpec := { name := "geomSpots", fn := fun _ => fun
  | [d1, d2] => { results := [.lit (.bool false)], args := [d1, d2] }
  | _ => none }
def GeomSpotsWrongFalsely : Prop := geomSpotsRow.holds Try.pinned (OpenSpec.ofChange geomSpotsWrong)

/-- 'quicksetlaw.GeomCosts': WHATEVER THE INPUT: true; the input reads as it did. -/
def geomCostsSpec : ChangeSpec := { name := "geomCosts", fn := fun _ => fun
  | [d1, d2, d3] => { results := [.lit (.bool true)], args := [d1, d2, d3] }
  | _ => none }
def geomCostsRow : OpenClaim := { program := "ytpknpmmcploacaa", sum := "8d619c2c329a596b5ec4c719e2f837741330f3be97fe8620394b17362021bc86", func := "quickset/quicksetlaw.GeomCosts", spec := "geomCosts", apart := false }
def GeomCostsSaid : Prop := geomCostsRow.holds Try.pinned (OpenSpec.ofChange geomCostsSpec)

/-- ITS FALSE NEIGHBOUR: 'it returns false'. Refute it at one input. -/
def geomCostsWrong : ChangeSpec := { name := "geomCosts", fn := fun _ => fun
  | [d1, d2, d3] => { results := [.lit (.bool false)], args := [d1, d2, d3] }
  | _ => none }
def GeomCostsWrongFalsely : Prop := geomCostsRow.holds Try.pinned (OpenSpec.ofChange geomCostsWrong)

/-- 'quicksetlaw.GeomColumns': WHATEVER THE INPUT: true; the input reads as it did. -/
def geomColumnsSpec : ChangeSpec := { name := "geomColumns", fn := fun _ => fun
  | [d1, d2, d3, d4] => { results := [.lit (.bool true)], args := [d1, d2, d3, d4] }
  | _ => none }
def geomColumnsRow : OpenClaim := { program := "ytpknpmmcploacaa", sum := "8d619c2c329a596b5ec4c719e2f837741330f3be97fe8620394b17362021bc86", func := "quickset/quicksetlaw.GeomColumns", spec := "geomColumns", apart := false }
def GeomColumnsSaid : Prop := geomColumnsRow.holds Try.pinned (OpenSpec.ofChange geomColumnsSpec)

/-- ITS FALSE NEIGHBOUR: 'it returns false'. Refute it at one input. -/
def geomColumnsWrong : ChangeSpec := { name := "geomColumns", fn := fun _ => fun
  | [d1, d2, d3, d4] => { results := [.lit (.bool false)], args := [d1, d2, d3, d4] }
  | _ => none }
def GeomColumnsWrongFalsely : Prop := geomColumnsRow.holds Try.pinned (OpenSpec.ofChange geomColumnsWrong)

/-- 'quicksetlaw.FletJoins': WHATEVER THE INPUT: true; the input reads as it did. -/
def fletJoinsSpec : ChangeSpec := { name := "fletJoins", fn := fun _ => fun
  | [d1, d2, d3] => { results := [.lit (.bool true)], args := [d1, d2, d3] }
  | _ => none }
def fletJoinsRow : OpenClaim := { program := "ytpknpmmcploacaa", sum := "8d619c2c329a596b5ec4c719e2f837741330f3be97fe8620394b17362021bc86", func := "quickset/quicksetlaw.FletJoins", spec := "fletJoins", apart := false }
def FletJoinsSaid : Prop := fletJoinsRow.holds Try.pinned (OpenSpec.ofChange fletJoinsSpec)

/-- ITS FALSE NEIGHBOUR: 'it returns false'. Refute it at one input. -/
def fletJoinsWrong : ChangeSpec := { name := "fletJoins", fn := fun _ => fun
  | [d1, d2, d3] => { results := [.lit (.bool false)], args := [d1, d2, d3] }
  | _ => none }
def FletJoinsWrongFalsely : Prop := fletJoinsRow.holds Try.pinned (OpenSpec.ofChange fletJoinsWrong)

/-- 'quicksetlaw.FletMores': WHATEVER THE INPUT: true; the input reads as it did. -/
def fletMoresSpec : ChangeSpec := { name := "fletMores", fn := fun _ => fun
  | [d1, d2] => { results := [.lit (.bool true)], args := [d1, d2] }
  | _ => none }
def fletMoresRow : OpenClaim := { program := "ytpknpmmcploacaa", sum := "8d619c2c329a596b5ec4c719e2f837741330f3be97fe8620394b17362021bc86", func := "quickset/quicksetlaw.FletMores", spec := "fletMores", apart := false }
def FletMoresSaid : Prop := fletMoresRow.holds Try.pinned (OpenSpec.ofChange fletMoresSpec)

/-- ITS FALSE NEIGHBOUR: 'it returns false'. Refute it at one input. -/
def fletMoresWrong : ChangeSpec := { name := "fletMores", fn := fun _ => fun
  | [d1, d2] => { results := [.lit (.bool false)], args := [d1, d2] }
  | _ => none }
def FletMoresWrongFalsely : Prop := fletMoresRow.holds Try.pinned (OpenSpec.ofChange fletMoresWrong)

/-- 'quicksetlaw.FletOfs': WHATEVER THE INPUT: true; the input reads as it did. -/
def fletOfsSpec : ChangeSpec := { name := "fletOfs", fn := fun _ => fun
  | [d] => { results := [.lit (.bool true)], args := [d] }
  | _ => none }
def fletOfsRow : OpenClaim := { program := "ytpknpmmcploacaa", sum := "8d619c2c329a596b5ec4c719e2f837741330f3be97fe8620394b17362021bc86", func := "quickset/quicksetlaw.FletOfs", spec := "fletOfs", apart := false }
def FletOfsSaid : Prop := fletOfsRow.holds Try.pinned (OpenSpec.ofChange fletOfsSpec)

/-- ITS FALSE NEIGHBOUR: 'it returns false'. Refute it at one input. -/
def fletOfsWrong : ChangeSpec := { name := "fletOfs", fn := fun _ => fun
  | [d] => { results := [.lit (.bool false)], args := [d] }
  | _ => none }
def FletOfsWrongFalsely : Prop := fletOfsRow.holds Try.pinned (OpenSpec.ofChange fletOfsWrong)

/-- 'quicksetlaw.CombCounts': WHATEVER THE INPUT: true; the input reads as it did. -/
def combCountsSpec : ChangeSpec := { name := "combCounts", fn := fun _ => fun
  | [d1, d2] => { results := [.lit (.bool true)], args := [d1, d2] }
  | _ => none }
def combCountsRow : OpenClaim := { program := "ytpknpmmcploacaa", sum := "8d619c2c329a596b5ec4c719e2f837741330f3be97fe8620394b17362021bc86", func := "quickset/quicksetlaw.CombCounts", spec := "combCounts", apart := false }
def CombCountsSaid : Prop := combCountsRow.holds Try.pinned (OpenSpec.ofChange combCountsSpec)

/-- ITS FALSE NEIGHBOUR: 'it returns false'. Refute it at one input. -/
def combCountsWrong : ChangeSpec := { name := "combCounts", fn := fun _ => fun
  | [d1, d2] => { results := [.lit (.bool false)], args := [d1, d2] }
  | _ => none }
def CombCountsWrongFalsely : Prop := combCountsRow.holds Try.pinned (OpenSpec.ofChange combCountsWrong)

/-- 'quicksetlaw.CombAts': WHATEVER THE INPUT: true; the input reads as it did. -/
def combAtsSpec : ChangeSpec := { name := "combAts", fn := fun _ => fun
  | [d1, d2, d3] => { results := [.lit (.bool true)], args := [d1, d2, d3] }
  | _ => none }
def combAtsRow : OpenClaim := { program := "ytpknpmmcploacaa", sum := "8d619c2c329a596b5ec4c719e2f837741330f3be97fe8620394b17362021bc86", func := "quickset/quicksetlaw.CombAts", spec := "combAts", recurses := true, apart := false }
def CombAtsSaid : Prop := combAtsRow.holds Try.pinned (OpenSpec.ofChange combAtsSpec)

/-- ITS FALSE NEIGHBOUR: 'it returns false'. Refute it at one input. -/
def combAtsWrong : ChangeSpec := { name := "combAts", fn := fun _ => fun
  | [d1, d2, d3] => { results := [.lit (.bool false)], args := [d1, d2, d3] }
  | _ => none }
def CombAtsWrongFalsely : Prop := combAtsRow.holds Try.pinned (OpenSpec.ofChange combAtsWrong)

/-- 'quicksetlaw.CombNumbers': WHATEVER THE INPUT: true; the input reads as it did. -/
def combNumbersSpec : ChangeSpec := { name := "combNumbers", fn := fun _ => fun
  | [d1, d2] => { results := [.lit (.bool true)], args := [d1, d2] }
  | _ => none }
def combNumbersRow : OpenClaim := { program := "ytpknpmmcploacaa", sum := "8d619c2c329a596b5ec4c719e2f837741330f3be97fe8620394b17362021bc86", func := "quickset/quicksetlaw.CombNumbers", spec := "combNumbers", recurses := true, apart := false }
def CombNumbersSaid : Prop := combNumbersRow.holds Try.pinned (OpenSpec.ofChange combNumbersSpec)

/-- ITS FALSE NEIGHBOUR: 'it returns false'. Refute it at one input. -/
def combNumbersWrong : ChangeSpec := { name := "combNumbers", fn := fun _ => fun
  | [d1, d2] => { results := [.lit (.bool false)], args := [d1, d2] }
  | _ => none }
def CombNumbersWrongFalsely : Prop := combNumbersRow.holds Try.pinned (OpenSpec.ofChange combNumbersWrong)

/-- 'quicksetlaw.CombAlls': WHATEVER THE INPUT: true; the input reads as it did. -/
def combAllsSpec : ChangeSpec := { name := "combAlls", fn := fun _ => fun
  | [d1, d2] => { results := [.lit (.bool true)], args := [d1, d2] }
  | _ => none }
def combAllsRow : OpenClaim := { program := "ytpknpmmcploacaa", sum := "8d619c2c329a596b5ec4c719e2f837741330f3be97fe8620394b17362021bc86", func := "quickset/quicksetlaw.CombAlls", spec := "combAlls", unfollowed := true, recurses := true, apart := false }
def CombAllsSaid : Prop := combAllsRow.holds Try.pinned (OpenSpec.ofChange combAllsSpec)

/-- ITS FALSE NEIGHBOUR: 'it returns false'. Refute it at one input. -/
def combAllsWrong : ChangeSpec := { name := "combAlls", fn := fun _ => fun
  | [d1, d2] => { results := [.lit (.bool false)], args := [d1, d2] }
  | _ => none }
def CombAllsWrongFalsely : Prop := combAllsRow.holds Try.pinned (OpenSpec.ofChange combAllsWrong)

/-- 'quicksetlaw.LabelMays': WHATEVER THE INPUT: true; the input reads as it did. -/
def labelMaysSpec : ChangeSpec := { name := "labelMays", fn := fun _ => fun
  | [d] => { results := [.lit (.bool true)], args := [d] }
  | _ => none }
def labelMaysRow : OpenClaim := { program := "ytpknpmmcploacaa", sum := "8d619c2c329a596b5ec4c719e2f837741330f3be97fe8620394b17362021bc86", func := "quickset/quicksetlaw.LabelMays", spec := "labelMays", apart := false }
def LabelMaysSaid : Prop := labelMaysRow.holds Try.pinned (OpenSpec.ofChange labelMaysSpec)

/-- ITS FALSE NEIGHBOUR: 'it returns false'. Refute it at one input. -/
def labelMaysWrong : ChangeSpec := { name := "labelMays", fn := fun _ => fun
  | [d] => { results := [.lit (.bool false)], args := [d] }
  | _ => none }
def LabelMaysWrongFalsely : Prop := labelMaysRow.holds Try.pinned (OpenSpec.ofChange labelMaysWrong)

/- THE SECOND FORM. 'bulk': how many values and letters a reading holds, each counted each time it is reached (what is shared counts as often as it is met; a slice's spare places count too). A statement '..UptoSaid' is the law's where the arguments, and the package variables that the reading takes, are together of bulk at most 1048576: NARROWER than '..Said'. Prove '..Said' where nothing that the law and all that it calls make is longer than what came in: it says more and counts as full. Else prove '..UptoSaid'. A law counts once. -/
mutual
def uptoBulk {H : Type} : DataW H → Nat
  | .lit (.string bytes) => bytes.length + 1
  | .lit _ => 1
  | .nil => 1
  | .ptr d => uptoBulk d + 1
  | .slice elems spare => uptoBulkAll elems + uptoBulkAll spare + 1
  | .agg parts => uptoBulkAll parts + 1
  | .iface _ d => uptoBulk d + 1
  | .map entries => uptoBulkEntries entries + 1
  | .held _ => 1
def uptoBulkAll {H : Type} : List (DataW H) → Nat
  | [] => 0
  | d :: r => uptoBulk d + uptoBulkAll r
def uptoBulkEntries {H : Type} : List (Lit × DataW H) → Nat
  | [] => 0
  | x :: r => uptoBulkEntry x + uptoBulkEntries r
def uptoBulkEntry {H : Type} : Lit × DataW H → Nat
  | (.string bytes, d) => bytes.length + uptoBulk d + 1
  | (_, d) => uptoBulk d + 1
 end
def uptoSmall : (H : Type) → List (DataW H) → Bool := fun _ ds => decide (uptoBulkAll ds ≤ 1048576)
def OpenSpec.upto (s : _root_.Go.ChangeSpec) : _root_.Go.OpenSpec := { _root_.Go.OpenSpec.ofChange s with cond := some uptoSmall }

/-- 'quicksetlaw.Names', WHERE WHAT IT READS IS OF BULK AT MOST 1048576: true; the input reads as it did. -/
def namesUptoRow : OpenClaim := { program := "ytpknpmmcploacaa", sum := "8d619c2c329a596b5ec4c719e2f837741330f3be97fe8620394b17362021bc86", func := "quickset/quicksetlaw.Names", spec := "names", apart := false, narrowed := true }
def NamesUptoSaid : Prop := namesUptoRow.holds Try.pinned (OpenSpec.upto namesSpec)

/-- 'quicksetlaw.GeomSpots', WHERE WHAT IT READS IS OF BULK AT MOST 1048576: true; the input reads as it did. -/
def geomSpotsUptoRow : OpenClaim := { program := "ytpknpmmcploacaa", sum := "8d619c2c329a596b5ec4c719e2f837741330f3be97fe8620394b17362021bc86", func := "quickset/quicksetlaw.GeomSpots", spec := "geomSpots", apart := false, narrowed := true }
def GeomSpotsUptoSaid : Prop := geomSpotsUptoRow.holds Try.pinned (OpenSpec.upto geomSpotsSpec)

/-- 'quicksetlaw.GeomCosts', WHERE WHAT IT READS IS OF BULK AT MOST 1048576: true; the input reads as it did. -/
def geomCostsUptoRow : OpenClaim := { program := "ytpknpmmcploacaa", sum := "8d619c2c329a596b5ec4c719e2f837741330f3be97fe8620394b17362021bc86", func := "quickset/quicksetlaw.GeomCosts", spec := "geomCosts", apart := false, narrowed := true }
def GeomCostsUptoSaid : Prop := geomCostsUptoRow.holds Try.pinned (OpenSpec.upto geomCostsSpec)

/-- 'quicksetlaw.GeomColumns', WHERE WHAT IT READS IS OF BULK AT MOST 1048576: true; the input reads as it did. -/
def geomColumnsUptoRow : OpenClaim := { program := "ytpknpmmcploacaa", sum := "8d619c2c329a596b5ec4c719e2f837741330f3be97fe8620394b17362021bc86", func := "quickset/quicksetlaw.GeomColumns", spec := "geomColumns", apart := false, narrowed := true }
def GeomColumnsUptoSaid : Prop := geomColumnsUptoRow.holds Try.pinned (OpenSpec.upto geomColumnsSpec)

/-- 'quicksetlaw.FletJoins', WHERE WHAT IT READS IS OF BULK AT MOST 1048576: true; the input reads as it did. -/
def fletJoinsUptoRow : OpenClaim := { program := "ytpknpmmcploacaa", sum := "8d619c2c329a596b5ec4c719e2f837741330f3be97fe8620394b17362021bc86", func := "quickset/quicksetlaw.FletJoins", spec := "fletJoins", apart := false, narrowed := true }
def FletJoinsUptoSaid : Prop := fletJoinsUptoRow.holds Try.pinned (OpenSpec.upto fletJoinsSpec)

/-- 'quicksetlaw.FletMores', WHERE WHAT IT READS IS OF BULK AT MOST 1048576: true; the input reads as it did. -/
def fletMoresUptoRow : OpenClaim := { program := "ytpknpmmcploacaa", sum := "8d619c2c329a596b5ec4c719e2f837741330f3be97fe8620394b17362021bc86", func := "quickset/quicksetlaw.FletMores", spec := "fletMores", apart := false, narrowed := true }
def FletMoresUptoSaid : Prop := fletMoresUptoRow.holds Try.pinned (OpenSpec.upto fletMoresSpec)

/-- 'quicksetlaw.FletOfs', WHERE WHAT IT READS IS OF BULK AT MOST 1048576: true; the input reads as it did. -/
def fletOfsUptoRow : OpenClaim := { program := "ytpknpmmcploacaa", sum := "8d619c2c329a596b5ec4c719e2f837741330f3be97fe8620394b17362021bc86", func := "quickset/quicksetlaw.FletOfs", spec := "fletOfs", apart := false, narrowed := true }
def FletOfsUptoSaid : Prop := fletOfsUptoRow.holds Try.pinned (OpenSpec.upto fletOfsSpec)

/-- 'quicksetlaw.CombCounts', WHERE WHAT IT READS IS OF BULK AT MOST 1048576: true; the input reads as it did. -/
def combCountsUptoRow : OpenClaim := { program := "ytpknpmmcploacaa", sum := "8d619c2c329a596b5ec4c719e2f837741330f3be97fe8620394b17362021bc86", func := "quickset/quicksetlaw.CombCounts", spec := "combCounts", apart := false, narrowed := true }
def CombCountsUptoSaid : Prop := combCountsUptoRow.holds Try.pinned (OpenSpec.upto combCountsSpec)

/-- 'quicksetlaw.CombAts', WHERE WHAT IT READS IS OF BULK AT MOST 1048576: true; the input reads as it did. -/
def combAtsUptoRow : OpenClaim := { program := "ytpknpmmcploacaa", sum := "8d619c2c329a596b5ec4c719e2f837741330f3be97fe8620394b17362021bc86", func := "quickset/quicksetlaw.CombAts", spec := "combAts", recurses := true, apart := false, narrowed := true }
def CombAtsUptoSaid : Prop := combAtsUptoRow.holds Try.pinned (OpenSpec.upto combAtsSpec)

/-- 'quicksetlaw.CombNumbers', WHERE WHAT IT READS IS OF BULK AT MOST 1048576: true; the input reads as it did. -/
def combNumbersUptoRow : OpenClaim := { program := "ytpknpmmcploacaa", sum := "8d619c2c329a596b5ec4c719e2f837741330f3be97fe8620394b17362021bc86", func := "quickset/quicksetlaw.CombNumbers", spec := "combNumbers", recurses := true, apart := false, narrowed := true }
def CombNumbersUptoSaid : Prop := combNumbersUptoRow.holds Try.pinned (OpenSpec.upto combNumbersSpec)

/-- 'quicksetlaw.CombAlls', WHERE WHAT IT READS IS OF BULK AT MOST 1048576: true; the input reads as it did. -/
def combAllsUptoRow : OpenClaim := { program := "ytpknpmmcploacaa", sum := "8d619c2c329a596b5ec4c719e2f837741330f3be97fe8620394b17362021bc86", func := "quickset/quicksetlaw.CombAlls", spec := "combAlls", unfollowed := true, recurses := true, apart := false, narrowed := true }
def CombAllsUptoSaid : Prop := combAllsUptoRow.holds Try.pinned (OpenSpec.upto combAllsSpec)

/-- 'quicksetlaw.LabelMays', WHERE WHAT IT READS IS OF BULK AT MOST 1048576: true; the input reads as it did. -/
def labelMaysUptoRow : OpenClaim := { program := "ytpknpmmcploacaa", sum := "8d619c2c329a596b5ec4c719e2f837741330f3be97fe8620394b17362021bc86", func := "quickset/quicksetlaw.LabelMays", spec := "labelMays", apart := false, narrowed := true }
def LabelMaysUptoSaid : Prop := labelMaysUptoRow.holds Try.pinned (OpenSpec.upto labelMaysSpec)

end Rows
end Go.Proofs.Ytpknpmmcploacaa
