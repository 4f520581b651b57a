/-
  No cell of these rows narrows 'for every input' (looked for: loops, veiled, ifaces, maps, wideKeys, modest, calm, conditions, laid).
  DERIVED. THE GIVEN ROWS OF THIS SEAT. 10 by the template 'for every input the law returns true; each argument reads behind the call as it read before'; 0 by the template 'total and deterministic' (their statements: YthkgcbjfgglciaaTotals.lean).
  GIVEN WITH THE SEED: the statements are not yours to turn. If you find one false, say at which input.
  Laid BY PROGRAM, IN A SANDBOX (cutbox-rows.mjs): the forced cells as the released guide's own fill.sh prints them over the translation feac03fa580d4a0b… (all of the seat's roots in one cut). By AI agents, Wed Nov 11 2026. No macro, syntax, notation, axiom, sorry.
-/
import Derived.Test.YthkgcbjfgglciaaChecked
import GoSem.Claim
import GoSem.ClaimJoined
import GoSem.ClaimMapViews
import Derived.JoinedTies
import Derived.KernelRfl
namespace Go.Proofs.Ythkgcbjfgglciaa
/- THE CELL 'sum', in the pinned program and in every row, IS THE sha256 OF THE DUMP (.gsa) THAT YthkgcbjfgglciaaProg.lean LOADS. Nothing in Lean hashes anything: it is a label: what it is worth is what the hold of that sum in a sandbox is worth. -/
noncomputable def Try.pinned : Pinned := { name := "ythkgcbjfgglciaa", sum := "feac03fa580d4a0b4d7d668006a54f185891f08b055a3af4f04a73b34922e1f1", checked := Try.checked }
namespace Rows
def none {H : Type} : Left H := { results := [], args := [] }

/-- 'quicksetlaw.SpanMays': WHATEVER THE INPUT: true; the input reads as it did. -/
def spanMaysSpec : ChangeSpec := { name := "spanMays", fn := fun _ => fun
  | [d] => { results := [.lit (.bool true)], args := [d] }
  | _ => none }
def spanMaysRow : OpenClaim := { program := "ythkgcbjfgglciaa", sum := "feac03fa580d4a0b4d7d668006a54f185891f08b055a3af4f04a73b34922e1f1", func := "quickset/quicksetlaw.SpanMays", spec := "spanMays", apart := false }
def SpanMaysSaid : Prop := spanMaysRow.holds Try.pinned (OpenSpec.ofChange spanMaysSpec)

/-- ITS FALSE NEIGHBOUR: 'it returns false'. Refute it at one input. -/
def spanMaysWrong : ChangeSpec := { name := "spanMays", fn := fun _ => fun
  | [d] => { results := [.lit (.bool false)], args := [d] }
  | _ => none }
def SpanMaysWrongFalsely : Prop := spanMaysRow.holds Try.pinned (OpenSpec.ofChange spanMaysWrong)

/-- 'quicksetlaw.SpanSizes': WHATEVER THE INPUT: true; the input reads as it did. -/
def spanSizesSpec : ChangeSpec := { name := "spanSizes", fn := fun _ => fun
  | [d] => { results := [.lit (.bool true)], args := [d] }
  | _ => none }
def spanSizesRow : OpenClaim := { program := "ythkgcbjfgglciaa", sum := "feac03fa580d4a0b4d7d668006a54f185891f08b055a3af4f04a73b34922e1f1", func := "quickset/quicksetlaw.SpanSizes", spec := "spanSizes", apart := false }
def SpanSizesSaid : Prop := spanSizesRow.holds Try.pinned (OpenSpec.ofChange spanSizesSpec)

/-- ITS FALSE NEIGHBOUR: 'it returns false'. Refute it at one input. -/
def spanSizesWrong : ChangeSpec := { name := "spanSizes", fn := fun _ => fun
  | [d] => { results := [.lit (.bool false)], args := [d] }
  | _ => none }
def SpanSizesWrongFalsely : Prop := spanSizesRow.holds Try.pinned (OpenSpec.ofChange spanSizesWrong)

/-- 'quicksetlaw.SpanFirsts': WHATEVER THE INPUT: true; the input reads as it did. -/
def spanFirstsSpec : ChangeSpec := { name := "spanFirsts", fn := fun _ => fun
  | [d1, d2] => { results := [.lit (.bool true)], args := [d1, d2] }
  | _ => none }
def spanFirstsRow : OpenClaim := { program := "ythkgcbjfgglciaa", sum := "feac03fa580d4a0b4d7d668006a54f185891f08b055a3af4f04a73b34922e1f1", func := "quickset/quicksetlaw.SpanFirsts", spec := "spanFirsts", apart := false }
def SpanFirstsSaid : Prop := spanFirstsRow.holds Try.pinned (OpenSpec.ofChange spanFirstsSpec)

/-- ITS FALSE NEIGHBOUR: 'it returns false'. Refute it at one input. -/
def spanFirstsWrong : ChangeSpec := { name := "spanFirsts", fn := fun _ => fun
  | [d1, d2] => { results := [.lit (.bool false)], args := [d1, d2] }
  | _ => none }
def SpanFirstsWrongFalsely : Prop := spanFirstsRow.holds Try.pinned (OpenSpec.ofChange spanFirstsWrong)

/-- 'quicksetlaw.SpanHases': WHATEVER THE INPUT: true; the input reads as it did. -/
def spanHasesSpec : ChangeSpec := { name := "spanHases", fn := fun _ => fun
  | [d1, d2] => { results := [.lit (.bool true)], args := [d1, d2] }
  | _ => none }
def spanHasesRow : OpenClaim := { program := "ythkgcbjfgglciaa", sum := "feac03fa580d4a0b4d7d668006a54f185891f08b055a3af4f04a73b34922e1f1", func := "quickset/quicksetlaw.SpanHases", spec := "spanHases", unfollowed := true, recurses := true, apart := false }
def SpanHasesSaid : Prop := spanHasesRow.holds Try.pinned (OpenSpec.ofChange spanHasesSpec)

/-- ITS FALSE NEIGHBOUR: 'it returns false'. Refute it at one input. -/
def spanHasesWrong : ChangeSpec := { name := "spanHases", fn := fun _ => fun
  | [d1, d2] => { results := [.lit (.bool false)], args := [d1, d2] }
  | _ => none }
def SpanHasesWrongFalsely : Prop := spanHasesRow.holds Try.pinned (OpenSpec.ofChange spanHasesWrong)

/-- 'quicksetlaw.SpanAdds': WHATEVER THE INPUT: true; the input reads as it did. -/
def spanAddsSpec : ChangeSpec := { name := "spanAdds", fn := fun _ => fun
  | [d1, d2] => { results := [.lit (.bool true)], args := [d1, d2] }
  | _ => none }
def spanAddsRow : OpenClaim := { program := "ythkgcbjfgglciaa", sum := "feac03fa580d4a0b4d7d668006a54f185891f08b055a3af4f04a73b34922e1f1", func := "quickset/quicksetlaw.SpanAdds", spec := "spanAdds", inPlace := ["internal/reflectlite.ValueOf", "internal/reflectlite.Swapper", "(internal/reflectlite.Value).Len"], unfollowed := true, recurses := true, apart := false }
def SpanAddsSaid : Prop := spanAddsRow.holds Try.pinned (OpenSpec.ofChange spanAddsSpec)

/-- ITS FALSE NEIGHBOUR: 'it returns false'. Refute it at one input. -/
def spanAddsWrong : ChangeSpec := { name := "spanAdds", fn := fun _ => fun
  | [d1, d2] => { results := [.lit (.bool false)], args := [d1, d2] }
  | _ => none }
def SpanAddsWrongFalsely : Prop := spanAddsRow.holds Try.pinned (OpenSpec.ofChange spanAddsWrong)

/-- 'quicksetlaw.SpanCuts': WHATEVER THE INPUT: true; the input reads as it did. -/
def spanCutsSpec : ChangeSpec := { name := "spanCuts", fn := fun _ => fun
  | [d1, d2] => { results := [.lit (.bool true)], args := [d1, d2] }
  | _ => none }
def spanCutsRow : OpenClaim := { program := "ythkgcbjfgglciaa", sum := "feac03fa580d4a0b4d7d668006a54f185891f08b055a3af4f04a73b34922e1f1", func := "quickset/quicksetlaw.SpanCuts", spec := "spanCuts", inPlace := ["internal/reflectlite.ValueOf", "internal/reflectlite.Swapper", "(internal/reflectlite.Value).Len"], unfollowed := true, recurses := true, apart := false }
def SpanCutsSaid : Prop := spanCutsRow.holds Try.pinned (OpenSpec.ofChange spanCutsSpec)

/-- ITS FALSE NEIGHBOUR: 'it returns false'. Refute it at one input. -/
def spanCutsWrong : ChangeSpec := { name := "spanCuts", fn := fun _ => fun
  | [d1, d2] => { results := [.lit (.bool false)], args := [d1, d2] }
  | _ => none }
def SpanCutsWrongFalsely : Prop := spanCutsRow.holds Try.pinned (OpenSpec.ofChange spanCutsWrong)

/-- 'quicksetlaw.SpanBoths': WHATEVER THE INPUT: true; the input reads as it did. -/
def spanBothsSpec : ChangeSpec := { name := "spanBoths", fn := fun _ => fun
  | [d1, d2] => { results := [.lit (.bool true)], args := [d1, d2] }
  | _ => none }
def spanBothsRow : OpenClaim := { program := "ythkgcbjfgglciaa", sum := "feac03fa580d4a0b4d7d668006a54f185891f08b055a3af4f04a73b34922e1f1", func := "quickset/quicksetlaw.SpanBoths", spec := "spanBoths", inPlace := ["internal/reflectlite.ValueOf", "internal/reflectlite.Swapper", "(internal/reflectlite.Value).Len"], unfollowed := true, recurses := true, apart := false }
def SpanBothsSaid : Prop := spanBothsRow.holds Try.pinned (OpenSpec.ofChange spanBothsSpec)

/-- ITS FALSE NEIGHBOUR: 'it returns false'. Refute it at one input. -/
def spanBothsWrong : ChangeSpec := { name := "spanBoths", fn := fun _ => fun
  | [d1, d2] => { results := [.lit (.bool false)], args := [d1, d2] }
  | _ => none }
def SpanBothsWrongFalsely : Prop := spanBothsRow.holds Try.pinned (OpenSpec.ofChange spanBothsWrong)

/-- 'quicksetlaw.LabelEncodes': WHATEVER THE INPUT: true; the input reads as it did. -/
def labelEncodesSpec : ChangeSpec := { name := "labelEncodes", fn := fun _ => fun
  | [d] => { results := [.lit (.bool true)], args := [d] }
  | _ => none }
def labelEncodesRow : OpenClaim := { program := "ythkgcbjfgglciaa", sum := "feac03fa580d4a0b4d7d668006a54f185891f08b055a3af4f04a73b34922e1f1", func := "quickset/quicksetlaw.LabelEncodes", spec := "labelEncodes", apart := false }
def LabelEncodesSaid : Prop := labelEncodesRow.holds Try.pinned (OpenSpec.ofChange labelEncodesSpec)

/-- ITS FALSE NEIGHBOUR: 'it returns false'. Refute it at one input. -/
def labelEncodesWrong : ChangeSpec := { name := "labelEncodes", fn := fun _ => fun
  | [d] => { results := [.lit (.bool false)], args := [d] }
  | _ => none }
def LabelEncodesWrongFalsely : Prop := labelEncodesRow.holds Try.pinned (OpenSpec.ofChange labelEncodesWrong)

/-- 'quicksetlaw.LabelDecodes': WHATEVER THE INPUT: true; the input reads as it did. -/
def labelDecodesSpec : ChangeSpec := { name := "labelDecodes", fn := fun _ => fun
  | [d] => { results := [.lit (.bool true)], args := [d] }
  | _ => none }
def labelDecodesRow : OpenClaim := { program := "ythkgcbjfgglciaa", sum := "feac03fa580d4a0b4d7d668006a54f185891f08b055a3af4f04a73b34922e1f1", func := "quickset/quicksetlaw.LabelDecodes", spec := "labelDecodes", unfollowed := true, recurses := true, apart := false }
def LabelDecodesSaid : Prop := labelDecodesRow.holds Try.pinned (OpenSpec.ofChange labelDecodesSpec)

/-- ITS FALSE NEIGHBOUR: 'it returns false'. Refute it at one input. -/
def labelDecodesWrong : ChangeSpec := { name := "labelDecodes", fn := fun _ => fun
  | [d] => { results := [.lit (.bool false)], args := [d] }
  | _ => none }
def LabelDecodesWrongFalsely : Prop := labelDecodesRow.holds Try.pinned (OpenSpec.ofChange labelDecodesWrong)

/-- 'quicksetlaw.LabelBests': WHATEVER THE INPUT: true; the input reads as it did. -/
def labelBestsSpec : ChangeSpec := { name := "labelBests", fn := fun _ => fun
  | [d] => { results := [.lit (.bool true)], args := [d] }
  | _ => none }
def labelBestsRow : OpenClaim := { program := "ythkgcbjfgglciaa", sum := "feac03fa580d4a0b4d7d668006a54f185891f08b055a3af4f04a73b34922e1f1", func := "quickset/quicksetlaw.LabelBests", spec := "labelBests", unfollowed := true, recurses := true, apart := false }
def LabelBestsSaid : Prop := labelBestsRow.holds Try.pinned (OpenSpec.ofChange labelBestsSpec)

/-- ITS FALSE NEIGHBOUR: 'it returns false'. Refute it at one input. -/
def labelBestsWrong : ChangeSpec := { name := "labelBests", fn := fun _ => fun
  | [d] => { results := [.lit (.bool false)], args := [d] }
  | _ => none }
def LabelBestsWrongFalsely : Prop := labelBestsRow.holds Try.pinned (OpenSpec.ofChange labelBestsWrong)

/- THE SECOND FORM. 'bulk': how many values and letters a reading holds, each counted each time it is reached (what is shared counts as often as it is met; a slice's spare places count too). A statement '..UptoSaid' is the law's where the arguments, and the package variables that the reading takes, are together of bulk at most 1048576: NARROWER than '..Said'. Prove '..Said' where nothing that the law and all that it calls make is longer than what came in: it says more and counts as full. Else prove '..UptoSaid'. A law counts once. -/
mutual
def uptoBulk {H : Type} : DataW H → Nat
  | .lit (.string bytes) => bytes.length + 1
  | .lit _ => 1
  | .nil => 1
  | .ptr d => uptoBulk d + 1
  | .slice elems spare => uptoBulkAll elems + uptoBulkAll spare + 1
  | .agg parts => uptoBulkAll parts + 1
  | .iface _ d => uptoBulk d + 1
  | .map entries => uptoBulkEntries entries + 1
  | .held _ => 1
def uptoBulkAll {H : Type} : List (DataW H) → Nat
  | [] => 0
  | d :: r => uptoBulk d + uptoBulkAll r
def uptoBulkEntries {H : Type} : List (Lit × DataW H) → Nat
  | [] => 0
  | x :: r => uptoBulkEntry x + uptoBulkEntries r
def uptoBulkEntry {H : Type} : Lit × DataW H → Nat
  | (.string bytes, d) => bytes.length + uptoBulk d + 1
  | (_, d) => uptoBulk d + 1
 end
def uptoSmall : (H : Type) → List (DataW H) → Bool := fun _ ds => decide (uptoBulkAll ds ≤ 1048576)
def OpenSpec.upto (s : _root_.Go.ChangeSpec) : _root_.Go.OpenSpec := { _root_.Go.OpenSpec.ofChange s with cond := some uptoSmall }

/-- 'quicksetlaw.SpanMays', WHERE WHAT IT READS IS OF BULK AT MOST 1048576: true; the input reads as it did. -/
def spanMaysUptoRow : OpenClaim := { program := "ythkgcbjfgglciaa", sum := "feac03fa580d4a0b4d7d668006a54f185891f08b055a3af4f04a73b34922e1f1", func := "quickset/quicksetlaw.SpanMays", spec := "spanMays", apart := false, narrowed := true }
def SpanMaysUptoSaid : Prop := spanMaysUptoRow.holds Try.pinned (OpenSpec.upto spanMaysSpec)

/-- 'quicksetlaw.SpanSizes', WHERE WHAT IT READS IS OF BULK AT MOST 1048576: true; the input reads as it did. -/
def spanSizesUptoRow : OpenClaim := { program := "ythkgcbjfgglciaa", sum := "feac03fa580d4a0b4d7d668006a54f185891f08b055a3af4f04a73b34922e1f1", func := "quickset/quicksetlaw.SpanSizes", spec := "spanSizes", apart := false, narrowed := true }
def SpanSizesUptoSaid : Prop := spanSizesUptoRow.holds Try.pinned (OpenSpec.upto spanSizesSpec)

/-- 'quicksetlaw.SpanFirsts', WHERE WHAT IT READS IS OF BULK AT MOST 1048576: true; the input reads as it did. -/
def spanFirstsUptoRow : OpenClaim := { program := "ythkgcbjfgglciaa", sum := "feac03fa580d4a0b4d7d668006a54f185891f08b055a3af4f04a73b34922e1f1", func := "quickset/quicksetlaw.SpanFirsts", spec := "spanFirsts", apart := false, narrowed := true }
def SpanFirstsUptoSaid : Prop := spanFirstsUptoRow.holds Try.pinned (OpenSpec.upto spanFirstsSpec)

/-- 'quicksetlaw.SpanHases', WHERE WHAT IT READS IS OF BULK AT MOST 1048576: true; the input reads as it did. -/
def spanHasesUptoRow : OpenClaim := { program := "ythkgcbjfgglciaa", sum := "feac03fa580d4a0b4d7d668006a54f185891f08b055a3af4f04a73b34922e1f1", func := "quickset/quicksetlaw.SpanHases", spec := "spanHases", unfollowed := true, recurses := true, apart := false, narrowed := true }
def SpanHasesUptoSaid : Prop := spanHasesUptoRow.holds Try.pinned (OpenSpec.upto spanHasesSpec)

/-- 'quicksetlaw.SpanAdds', WHERE WHAT IT READS IS OF BULK AT MOST 1048576: true; the input reads as it did. -/
def spanAddsUptoRow : OpenClaim := { program := "ythkgcbjfgglciaa", sum := "feac03fa580d4a0b4d7d668006a54f185891f08b055a3af4f04a73b34922e1f1", func := "quickset/quicksetlaw.SpanAdds", spec := "spanAdds", inPlace := ["internal/reflectlite.ValueOf", "internal/reflectlite.Swapper", "(internal/reflectlite.Value).Len"], unfollowed := true, recurses := true, apart := false, narrowed := true }
def SpanAddsUptoSaid : Prop := spanAddsUptoRow.holds Try.pinned (OpenSpec.upto spanAddsSpec)

/-- 'quicksetlaw.SpanCuts', WHERE WHAT IT READS IS OF BULK AT MOST 1048576: true; the input reads as it did. -/
def spanCutsUptoRow : OpenClaim := { program := "ythkgcbjfgglciaa", sum := "feac03fa580d4a0b4d7d668006a54f185891f08b055a3af4f04a73b34922e1f1", func := "quickset/quicksetlaw.SpanCuts", spec := "spanCuts", inPlace := ["internal/reflectlite.ValueOf", "internal/reflectlite.Swapper", "(internal/reflectlite.Value).Len"], unfollowed := true, recurses := true, apart := false, narrowed := true }
def SpanCutsUptoSaid : Prop := spanCutsUptoRow.holds Try.pinned (OpenSpec.upto spanCutsSpec)

/-- 'quicksetlaw.SpanBoths', WHERE WHAT IT READS IS OF BULK AT MOST 1048576: true; the input reads as it did. -/
def spanBothsUptoRow : OpenClaim := { program := "ythkgcbjfgglciaa", sum := "feac03fa580d4a0b4d7d668006a54f185891f08b055a3af4f04a73b34922e1f1", func := "quickset/quicksetlaw.SpanBoths", spec := "spanBoths", inPlace := ["internal/reflectlite.ValueOf", "internal/reflectlite.Swapper", "(internal/reflectlite.Value).Len"], unfollowed := true, recurses := true, apart := false, narrowed := true }
def SpanBothsUptoSaid : Prop := spanBothsUptoRow.holds Try.pinned (OpenSpec.upto spanBothsSpec)

/-- 'quicksetlaw.LabelEncodes', WHERE WHAT IT READS IS OF BULK AT MOST 1048576: true; the input reads as it did. -/
def labelEncodesUptoRow : OpenClaim := { program := "ythkgcbjfgglciaa", sum := "feac03fa580d4a0b4d7d668006a54f185891f08b055a3af4f04a73b34922e1f1", func := "quickset/quicksetlaw.LabelEncodes", spec := "labelEncodes", apart := false, narrowed := true }
def LabelEncodesUptoSaid : Prop := labelEncodesUptoRow.holds Try.pinned (OpenSpec.upto labelEncodesSpec)

/-- 'quicksetlaw.LabelDecodes', WHERE WHAT IT READS IS OF BULK AT MOST 1048576: true; the input reads as it did. -/
def labelDecodesUptoRow : OpenClaim := { program := "ythkgcbjfgglciaa", sum := "feac03fa580d4a0b4d7d668006a54f185891f08b055a3af4f04a73b34922e1f1", func := "quickset/quicksetlaw.LabelDecodes", spec := "labelDecodes", unfollowed := true, recurses := true, apart := false, narrowed := true }
def LabelDecodesUptoSaid : Prop := labelDecodesUptoRow.holds Try.pinned (OpenSpec.upto labelDecodesSpec)

/-- 'quicksetlaw.LabelBests', WHERE WHAT IT READS IS OF BULK AT MOST 1048576: true; the input reads as it did. -/
def labelBestsUptoRow : OpenClaim := { program := "ythkgcbjfgglciaa", sum := "feac03fa580d4a0b4d7d668006a54f185891f08b055a3af4f04a73b34922e1f1", func := "quickset/quicksetlaw.LabelBests", spec := "labelBests", unfollowed := true, recurses := true, apart := false, narrowed := true }
def LabelBestsUptoSaid : Prop := labelBestsUptoRow.holds Try.pinned (OpenSpec.upto labelBestsSpec)

end Rows
end Go.Proofs.Ythkgcbjfgglciaa
