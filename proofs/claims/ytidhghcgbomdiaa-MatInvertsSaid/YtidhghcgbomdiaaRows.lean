/-
  No cell of these rows narrows 'for every input' (looked for: loops, veiled, ifaces, maps, wideKeys, modest, calm, conditions, laid).
  DERIVED. THE GIVEN ROWS OF THIS SEAT. 12 by the template 'for every input the law returns true; each argument reads behind the call as it read before'; 0 by the template 'total and deterministic' (their statements: YtidhghcgbomdiaaTotals.lean).
  GIVEN WITH THE SEED: the statements are not yours to turn. If you find one false, say at which input.
  Laid BY PROGRAM, IN A SANDBOX (cutbox-rows.mjs): the forced cells as the released guide's own fill.sh prints them over the translation dfbe0ebdd4950053… (all of the seat's roots in one cut). By AI agents, Wed Nov 11 2026. No macro, syntax, notation, axiom, sorry.
-/
import Derived.Test.YtidhghcgbomdiaaChecked
import GoSem.Claim
import GoSem.ClaimJoined
import GoSem.ClaimMapViews
import Derived.JoinedTies
import Derived.KernelRfl
namespace Go.Proofs.Ytidhghcgbomdiaa
/- THE CELL 'sum', in the pinned program and in every row, IS THE sha256 OF THE DUMP (.gsa) THAT YtidhghcgbomdiaaProg.lean LOADS. Nothing in Lean hashes anything: it is a label: what it is worth is what the hold of that sum in a sandbox is worth. -/
noncomputable def Try.pinned : Pinned := { name := "ytidhghcgbomdiaa", sum := "dfbe0ebdd4950053a5343fb8281a4de7dcf5e7f5630bb22b98c977e8784622cf", checked := Try.checked }
namespace Rows
def none {H : Type} : Left H := { results := [], args := [] }

/-- 'quicksetlaw.GfAdds': WHATEVER THE INPUT: true; the input reads as it did. -/
def gfAddsSpec : ChangeSpec := { name := "gfAdds", fn := fun _ => fun
  | [d1, d2] => { results := [.lit (.bool true)], args := [d1, d2] }
  | _ => none }
def gfAddsRow : OpenClaim := { program := "ytidhghcgbomdiaa", sum := "dfbe0ebdd4950053a5343fb8281a4de7dcf5e7f5630bb22b98c977e8784622cf", func := "quickset/quicksetlaw.GfAdds", spec := "gfAdds", apart := false }
def GfAddsSaid : Prop := gfAddsRow.holds Try.pinned (OpenSpec.ofChange gfAddsSpec)

/-- ITS FALSE NEIGHBOUR: 'it returns false'. Refute it at one input. -/
def gfAddsWrong : ChangeSpec := { name := "gfAdds", fn := fun _ => fun
  | [d1, d2] => { results := [.lit (.bool false)], args := [d1, d2] }
  | _ => none }
def GfAddsWrongFalsely : Prop := gfAddsRow.holds Try.pinned (OpenSpec.ofChange gfAddsWrong)

/-- 'quicksetlaw.GfMuls': WHATEVER THE INPUT: true; the input reads as it did. -/
def gfMulsSpec : ChangeSpec := { name := "gfMuls", fn := fun _ => fun
  | [d1, d2] => { results := [.lit (.bool true)], args := [d1, d2] }
  | _ => none }
def gfMulsRow : OpenClaim := { program := "ytidhghcgbomdiaa", sum := "dfbe0ebdd4950053a5343fb8281a4de7dcf5e7f5630bb22b98c977e8784622cf", func := "quickset/quicksetlaw.GfMuls", spec := "gfMuls", apart := false }
def GfMulsSaid : Prop := gfMulsRow.holds Try.pinned (OpenSpec.ofChange gfMulsSpec)

/-- ITS FALSE NEIGHBOUR: 'it returns false'. Refute it at one input. -/
def gfMulsWrong : ChangeSpec := { name := "gfMuls", fn := fun _ => fun
  | [d1, d2] => { results := [.lit (.bool false)], args := [d1, d2] }
  | _ => none }
def GfMulsWrongFalsely : Prop := gfMulsRow.holds Try.pinned (OpenSpec.ofChange gfMulsWrong)

/-- 'quicksetlaw.GfDivs': WHATEVER THE INPUT: true; the input reads as it did. -/
def gfDivsSpec : ChangeSpec := { name := "gfDivs", fn := fun _ => fun
  | [d1, d2] => { results := [.lit (.bool true)], args := [d1, d2] }
  | _ => none }
def gfDivsRow : OpenClaim := { program := "ytidhghcgbomdiaa", sum := "dfbe0ebdd4950053a5343fb8281a4de7dcf5e7f5630bb22b98c977e8784622cf", func := "quickset/quicksetlaw.GfDivs", spec := "gfDivs", apart := false }
def GfDivsSaid : Prop := gfDivsRow.holds Try.pinned (OpenSpec.ofChange gfDivsSpec)

/-- ITS FALSE NEIGHBOUR: 'it returns false'. Refute it at one input. -/
def gfDivsWrong : ChangeSpec := { name := "gfDivs", fn := fun _ => fun
  | [d1, d2] => { results := [.lit (.bool false)], args := [d1, d2] }
  | _ => none }
def GfDivsWrongFalsely : Prop := gfDivsRow.holds Try.pinned (OpenSpec.ofChange gfDivsWrong)

/-- 'quicksetlaw.GfInvs': WHATEVER THE INPUT: true; the input reads as it did. -/
def gfInvsSpec : ChangeSpec := { name := "gfInvs", fn := fun _ => fun
  | [d] => { results := [.lit (.bool true)], args := [d] }
  | _ => none }
def gfInvsRow : OpenClaim := { program := "ytidhghcgbomdiaa", sum := "dfbe0ebdd4950053a5343fb8281a4de7dcf5e7f5630bb22b98c977e8784622cf", func := "quickset/quicksetlaw.GfInvs", spec := "gfInvs", apart := false }
def GfInvsSaid : Prop := gfInvsRow.holds Try.pinned (OpenSpec.ofChange gfInvsSpec)

/-- ITS FALSE NEIGHBOUR: 'it returns false'. Refute it at one input. -/
def gfInvsWrong : ChangeSpec := { name := "gfInvs", fn := fun _ => fun
  | [d] => { results := [.lit (.bool false)], args := [d] }
  | _ => none }
def GfInvsWrongFalsely : Prop := gfInvsRow.holds Try.pinned (OpenSpec.ofChange gfInvsWrong)

/-- 'quicksetlaw.GfPows': WHATEVER THE INPUT: true; the input reads as it did. -/
def gfPowsSpec : ChangeSpec := { name := "gfPows", fn := fun _ => fun
  | [d1, d2] => { results := [.lit (.bool true)], args := [d1, d2] }
  | _ => none }
def gfPowsRow : OpenClaim := { program := "ytidhghcgbomdiaa", sum := "dfbe0ebdd4950053a5343fb8281a4de7dcf5e7f5630bb22b98c977e8784622cf", func := "quickset/quicksetlaw.GfPows", spec := "gfPows", apart := false }
def GfPowsSaid : Prop := gfPowsRow.holds Try.pinned (OpenSpec.ofChange gfPowsSpec)

/-- ITS FALSE NEIGHBOUR: 'it returns false'. Refute it at one input. -/
def gfPowsWrong : ChangeSpec := { name := "gfPows", fn := fun _ => fun
  | [d1, d2] => { results := [.lit (.bool false)], args := [d1, d2] }
  | _ => none }
def GfPowsWrongFalsely : Prop := gfPowsRow.holds Try.pinned (OpenSpec.ofChange gfPowsWrong)

/-- 'quicksetlaw.GfExps': WHATEVER THE INPUT: true; the input reads as it did. -/
def gfExpsSpec : ChangeSpec := { name := "gfExps", fn := fun _ => fun
  | [d] => { results := [.lit (.bool true)], args := [d] }
  | _ => none }
def gfExpsRow : OpenClaim := { program := "ytidhghcgbomdiaa", sum := "dfbe0ebdd4950053a5343fb8281a4de7dcf5e7f5630bb22b98c977e8784622cf", func := "quickset/quicksetlaw.GfExps", spec := "gfExps", apart := false }
def GfExpsSaid : Prop := gfExpsRow.holds Try.pinned (OpenSpec.ofChange gfExpsSpec)

/-- ITS FALSE NEIGHBOUR: 'it returns false'. Refute it at one input. -/
def gfExpsWrong : ChangeSpec := { name := "gfExps", fn := fun _ => fun
  | [d] => { results := [.lit (.bool false)], args := [d] }
  | _ => none }
def GfExpsWrongFalsely : Prop := gfExpsRow.holds Try.pinned (OpenSpec.ofChange gfExpsWrong)

/-- 'quicksetlaw.GfLogs': WHATEVER THE INPUT: true; the input reads as it did. -/
def gfLogsSpec : ChangeSpec := { name := "gfLogs", fn := fun _ => fun
  | [d] => { results := [.lit (.bool true)], args := [d] }
  | _ => none }
def gfLogsRow : OpenClaim := { program := "ytidhghcgbomdiaa", sum := "dfbe0ebdd4950053a5343fb8281a4de7dcf5e7f5630bb22b98c977e8784622cf", func := "quickset/quicksetlaw.GfLogs", spec := "gfLogs", apart := false }
def GfLogsSaid : Prop := gfLogsRow.holds Try.pinned (OpenSpec.ofChange gfLogsSpec)

/-- ITS FALSE NEIGHBOUR: 'it returns false'. Refute it at one input. -/
def gfLogsWrong : ChangeSpec := { name := "gfLogs", fn := fun _ => fun
  | [d] => { results := [.lit (.bool false)], args := [d] }
  | _ => none }
def GfLogsWrongFalsely : Prop := gfLogsRow.holds Try.pinned (OpenSpec.ofChange gfLogsWrong)

/-- 'quicksetlaw.MatMays': WHATEVER THE INPUT: true; the input reads as it did. -/
def matMaysSpec : ChangeSpec := { name := "matMays", fn := fun _ => fun
  | [d] => { results := [.lit (.bool true)], args := [d] }
  | _ => none }
def matMaysRow : OpenClaim := { program := "ytidhghcgbomdiaa", sum := "dfbe0ebdd4950053a5343fb8281a4de7dcf5e7f5630bb22b98c977e8784622cf", func := "quickset/quicksetlaw.MatMays", spec := "matMays", unfollowed := true, recurses := true, apart := false }
def MatMaysSaid : Prop := matMaysRow.holds Try.pinned (OpenSpec.ofChange matMaysSpec)

/-- ITS FALSE NEIGHBOUR: 'it returns false'. Refute it at one input. -/
def matMaysWrong : ChangeSpec := { name := "matMays", fn := fun _ => fun
  | [d] => { results := [.lit (.bool false)], args := [d] }
  | _ => none }
def MatMaysWrongFalsely : Prop := matMaysRow.holds Try.pinned (OpenSpec.ofChange matMaysWrong)

/-- 'quicksetlaw.MatApplies': WHATEVER THE INPUT: true; the input reads as it did. -/
def matAppliesSpec : ChangeSpec := { name := "matApplies", fn := fun _ => fun
  | [d1, d2] => { results := [.lit (.bool true)], args := [d1, d2] }
  | _ => none }
def matAppliesRow : OpenClaim := { program := "ytidhghcgbomdiaa", sum := "dfbe0ebdd4950053a5343fb8281a4de7dcf5e7f5630bb22b98c977e8784622cf", func := "quickset/quicksetlaw.MatApplies", spec := "matApplies", unfollowed := true, recurses := true, apart := false }
def MatAppliesSaid : Prop := matAppliesRow.holds Try.pinned (OpenSpec.ofChange matAppliesSpec)

/-- ITS FALSE NEIGHBOUR: 'it returns false'. Refute it at one input. -/
def matAppliesWrong : ChangeSpec := { name := "matApplies", fn := fun _ => fun
  | [d1, d2] => { results := [.lit (.bool false)], args := [d1, d2] }
  | _ => none }
def MatAppliesWrongFalsely : Prop := matAppliesRow.holds Try.pinned (OpenSpec.ofChange matAppliesWrong)

/-- 'quicksetlaw.MatMuls': WHATEVER THE INPUT: true; the input reads as it did. -/
def matMulsSpec : ChangeSpec := { name := "matMuls", fn := fun _ => fun
  | [d1, d2] => { results := [.lit (.bool true)], args := [d1, d2] }
  | _ => none }
def matMulsRow : OpenClaim := { program := "ytidhghcgbomdiaa", sum := "dfbe0ebdd4950053a5343fb8281a4de7dcf5e7f5630bb22b98c977e8784622cf", func := "quickset/quicksetlaw.MatMuls", spec := "matMuls", unfollowed := true, recurses := true, apart := false }
def MatMulsSaid : Prop := matMulsRow.holds Try.pinned (OpenSpec.ofChange matMulsSpec)

/-- ITS FALSE NEIGHBOUR: 'it returns false'. Refute it at one input. -/
def matMulsWrong : ChangeSpec := { name := "matMuls", fn := fun _ => fun
  | [d1, d2] => { results := [.lit (.bool false)], args := [d1, d2] }
  | _ => none }
def MatMulsWrongFalsely : Prop := matMulsRow.holds Try.pinned (OpenSpec.ofChange matMulsWrong)

/-- 'quicksetlaw.MatRanks': WHATEVER THE INPUT: true; the input reads as it did. -/
def matRanksSpec : ChangeSpec := { name := "matRanks", fn := fun _ => fun
  | [d] => { results := [.lit (.bool true)], args := [d] }
  | _ => none }
def matRanksRow : OpenClaim := { program := "ytidhghcgbomdiaa", sum := "dfbe0ebdd4950053a5343fb8281a4de7dcf5e7f5630bb22b98c977e8784622cf", func := "quickset/quicksetlaw.MatRanks", spec := "matRanks", unfollowed := true, recurses := true, apart := false }
def MatRanksSaid : Prop := matRanksRow.holds Try.pinned (OpenSpec.ofChange matRanksSpec)

/-- ITS FALSE NEIGHBOUR: 'it returns false'. Refute it at one input. -/
def matRanksWrong : ChangeSpec := { name := "matRanks", fn := fun _ => fun
  | [d] => { results := [.lit (.bool false)], args := [d] }
  | _ => none }
def MatRanksWrongFalsely : Prop := matRanksRow.holds Try.pinned (OpenSpec.ofChange matRanksWrong)

/-- 'quicksetlaw.MatInverts': WHATEVER THE INPUT: true; the input reads as it did. -/
def matInvertsSpec : ChangeSpec := { name := "matInverts", fn := fun _ => fun
  | [d] => { results := [.lit (.bool true)], args := [d] }
  | _ => none }
def matInvertsRow : OpenClaim := { program := "ytidhghcgbomdiaa", sum := "dfbe0ebdd4950053a5343fb8281a4de7dcf5e7f5630bb22b98c977e8784622cf", func := "quickset/quicksetlaw.MatInverts", spec := "matInverts", unfollowed := true, recurses := true, apart := false }
def MatInvertsSaid : Prop := matInvertsRow.holds Try.pinned (OpenSpec.ofChange matInvertsSpec)

/-- ITS FALSE NEIGHBOUR: 'it returns false'. Refute it at one input. -/
def matInvertsWrong : ChangeSpec := { name := "matInverts", fn := fun _ => fun
  | [d] => { results := [.lit (.bool false)], args := [d] }
  | _ => none }
def MatInvertsWrongFalsely : Prop := matInvertsRow.holds Try.pinned (OpenSpec.ofChange matInvertsWrong)

/- THE SECOND FORM. 'bulk': how many values and letters a reading holds, each counted each time it is reached (what is shared counts as often as it is met; a slice's spare places count too). A statement '..UptoSaid' is the law's where the arguments, and the package variables that the reading takes, are together of bulk at most 1048576: NARROWER than '..Said'. Prove '..Said' where nothing that the law and all that it calls make is longer than what came in: it says more and counts as full. Else prove '..UptoSaid'. A law counts once. -/
mutual
def uptoBulk {H : Type} : DataW H → Nat
  | .lit (.string bytes) => bytes.length + 1
  | .lit _ => 1
  | .nil => 1
  | .ptr d => uptoBulk d + 1
  | .slice elems spare => uptoBulkAll elems + uptoBulkAll spare + 1
  | .agg parts => uptoBulkAll parts + 1
  | .iface _ d => uptoBulk d + 1
  | .map entries => uptoBulkEntries entries + 1
  | .held _ => 1
def uptoBulkAll {H : Type} : List (DataW H) → Nat
  | [] => 0
  | d :: r => uptoBulk d + uptoBulkAll r
def uptoBulkEntries {H : Type} : List (Lit × DataW H) → Nat
  | [] => 0
  | x :: r => uptoBulkEntry x + uptoBulkEntries r
def uptoBulkEntry {H : Type} : Lit × DataW H → Nat
  | (.string bytes, d) => bytes.length + uptoBulk d + 1
  | (_, d) => uptoBulk d + 1
 end
def uptoSmall : (H : Type) → List (DataW H) → Bool := fun _ ds => decide (uptoBulkAll ds ≤ 1048576)
def OpenSpec.upto (s : _root_.Go.ChangeSpec) : _root_.Go.OpenSpec := { _root_.Go.OpenSpec.ofChange s with cond := some uptoSmall }

/-- 'quicksetlaw.GfAdds', WHERE WHAT IT READS IS OF BULK AT MOST 1048576: true; the input reads as it did. -/
def gfAddsUptoRow : OpenClaim := { program := "ytidhghcgbomdiaa", sum := "dfbe0ebdd4950053a5343fb8281a4de7dcf5e7f5630bb22b98c977e8784622cf", func := "quickset/quicksetlaw.GfAdds", spec := "gfAdds", apart := false, narrowed := true }
def GfAddsUptoSaid : Prop := gfAddsUptoRow.holds Try.pinned (OpenSpec.upto gfAddsSpec)

/-- 'quicksetlaw.GfMuls', WHERE WHAT IT READS IS OF BULK AT MOST 1048576: true; the input reads as it did. -/
def gfMulsUptoRow : OpenClaim := { program := "ytidhghcgbomdiaa", sum := "dfbe0ebdd4950053a5343fb8281a4de7dcf5e7f5630bb22b98c977e8784622cf", func := "quickset/quicksetlaw.GfMuls", spec := "gfMuls", apart := false, narrowed := true }
def GfMulsUptoSaid : Prop := gfMulsUptoRow.holds Try.pinned (OpenSpec.upto gfMulsSpec)

/-- 'quicksetlaw.GfDivs', WHERE WHAT IT READS IS OF BULK AT MOST 1048576: true; the input reads as it did. -/
def gfDivsUptoRow : OpenClaim := { program := "ytidhghcgbomdiaa", sum := "dfbe0ebdd4950053a5343fb8281a4de7dcf5e7f5630bb22b98c977e8784622cf", func := "quickset/quicksetlaw.GfDivs", spec := "gfDivs", apart := false, narrowed := true }
def GfDivsUptoSaid : Prop := gfDivsUptoRow.holds Try.pinned (OpenSpec.upto gfDivsSpec)

/-- 'quicksetlaw.GfInvs', WHERE WHAT IT READS IS OF BULK AT MOST 1048576: true; the input reads as it did. -/
def gfInvsUptoRow : OpenClaim := { program := "ytidhghcgbomdiaa", sum := "dfbe0ebdd4950053a5343fb8281a4de7dcf5e7f5630bb22b98c977e8784622cf", func := "quickset/quicksetlaw.GfInvs", spec := "gfInvs", apart := false, narrowed := true }
def GfInvsUptoSaid : Prop := gfInvsUptoRow.holds Try.pinned (OpenSpec.upto gfInvsSpec)

/-- 'quicksetlaw.GfPows', WHERE WHAT IT READS IS OF BULK AT MOST 1048576: true; the input reads as it did. -/
def gfPowsUptoRow : OpenClaim := { program := "ytidhghcgbomdiaa", sum := "dfbe0ebdd4950053a5343fb8281a4de7dcf5e7f5630bb22b98c977e8784622cf", func := "quickset/quicksetlaw.GfPows", spec := "gfPows", apart := false, narrowed := true }
def GfPowsUptoSaid : Prop := gfPowsUptoRow.holds Try.pinned (OpenSpec.upto gfPowsSpec)

/-- 'quicksetlaw.GfExps', WHERE WHAT IT READS IS OF BULK AT MOST 1048576: true; the input reads as it did. -/
def gfExpsUptoRow : OpenClaim := { program := "ytidhghcgbomdiaa", sum := "dfbe0ebdd4950053a5343fb8281a4de7dcf5e7f5630bb22b98c977e8784622cf", func := "quickset/quicksetlaw.GfExps", spec := "gfExps", apart := false, narrowed := true }
def GfExpsUptoSaid : Prop := gfExpsUptoRow.holds Try.pinned (OpenSpec.upto gfExpsSpec)

/-- 'quicksetlaw.GfLogs', WHERE WHAT IT READS IS OF BULK AT MOST 1048576: true; the input reads as it did. -/
def gfLogsUptoRow : OpenClaim := { program := "ytidhghcgbomdiaa", sum := "dfbe0ebdd4950053a5343fb8281a4de7dcf5e7f5630bb22b98c977e8784622cf", func := "quickset/quicksetlaw.GfLogs", spec := "gfLogs", apart := false, narrowed := true }
def GfLogsUptoSaid : Prop := gfLogsUptoRow.holds Try.pinned (OpenSpec.upto gfLogsSpec)

/-- 'quicksetlaw.MatMays', WHERE WHAT IT READS IS OF BULK AT MOST 1048576: true; the input reads as it did. -/
def matMaysUptoRow : OpenClaim := { program := "ytidhghcgbomdiaa", sum := "dfbe0ebdd4950053a5343fb8281a4de7dcf5e7f5630bb22b98c977e8784622cf", func := "quickset/quicksetlaw.MatMays", spec := "matMays", unfollowed := true, recurses := true, apart := false, narrowed := true }
def MatMaysUptoSaid : Prop := matMaysUptoRow.holds Try.pinned (OpenSpec.upto matMaysSpec)

/-- 'quicksetlaw.MatApplies', WHERE WHAT IT READS IS OF BULK AT MOST 1048576: true; the input reads as it did. -/
def matAppliesUptoRow : OpenClaim := { program := "ytidhghcgbomdiaa", sum := "dfbe0ebdd4950053a5343fb8281a4de7dcf5e7f5630bb22b98c977e8784622cf", func := "quickset/quicksetlaw.MatApplies", spec := "matApplies", unfollowed := true, recurses := true, apart := false, narrowed := true }
def MatAppliesUptoSaid : Prop := matAppliesUptoRow.holds Try.pinned (OpenSpec.upto matAppliesSpec)

/-- 'quicksetlaw.MatMuls', WHERE WHAT IT READS IS OF BULK AT MOST 1048576: true; the input reads as it did. -/
def matMulsUptoRow : OpenClaim := { program := "ytidhghcgbomdiaa", sum := "dfbe0ebdd4950053a5343fb8281a4de7dcf5e7f5630bb22b98c977e8784622cf", func := "quickset/quicksetlaw.MatMuls", spec := "matMuls", unfollowed := true, recurses := true, apart := false, narrowed := true }
def MatMulsUptoSaid : Prop := matMulsUptoRow.holds Try.pinned (OpenSpec.upto matMulsSpec)

/-- 'quicksetlaw.MatRanks', WHERE WHAT IT READS IS OF BULK AT MOST 1048576: true; the input reads as it did. -/
def matRanksUptoRow : OpenClaim := { program := "ytidhghcgbomdiaa", sum := "dfbe0ebdd4950053a5343fb8281a4de7dcf5e7f5630bb22b98c977e8784622cf", func := "quickset/quicksetlaw.MatRanks", spec := "matRanks", unfollowed := true, recurses := true, apart := false, narrowed := true }
def MatRanksUptoSaid : Prop := matRanksUptoRow.holds Try.pinned (OpenSpec.upto matRanksSpec)

/-- 'quicksetlaw.MatInverts', WHERE WHAT IT READS IS OF BULK AT MOST 1048576: true; the input reads as it did. -/
def matInvertsUptoRow : OpenClaim := { program := "ytidhghcgbomdiaa", sum := "dfbe0ebdd4950053a5343fb8281a4de7dcf5e7f5630bb22b98c977e8784622cf", func := "quickset/quicksetlaw.MatInverts", spec := "matInverts", unfollowed := true, recurses := true, apart := false, narrowed := true }
def MatInvertsUptoSaid : Prop := matInvertsUptoRow.holds Try.pinned (OpenSpec.upto matInvertsSpec)

end Rows
end Go.Proofs.Ytidhghcgbomdiaa
