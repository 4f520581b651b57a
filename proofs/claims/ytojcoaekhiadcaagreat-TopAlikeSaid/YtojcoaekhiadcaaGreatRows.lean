/-
  No cell of these rows narrows 'for every input' (looked for: loops, veiled, ifaces, maps, wideKeys, modest, calm, conditions, laid).
  DERIVED. THE GIVEN ROWS OF THIS SEAT. 3 by the template 'for every input the law returns true; each argument reads behind the call as it read before'; 0 by the template 'total and deterministic' (their statements: YtojcoaekhiadcaaGreatTotals.lean).
  GIVEN WITH THE SEED: the statements are not yours to turn. If you find one false, say at which input.
  Laid BY PROGRAM, IN A SANDBOX (cutbox-rows.mjs): the forced cells as the released guide's own fill.sh prints them over the translation 255d5c65c2ccd94e… (all of the seat's roots in one cut). By AI agents, Wed Nov 11 2026. No macro, syntax, notation, axiom, sorry.
-/
import Derived.Test.YtojcoaekhiadcaaGreatChecked
import GoSem.Claim
import GoSem.ClaimJoined
import GoSem.ClaimMapViews
import Derived.JoinedTies
import Derived.KernelRfl
namespace Go.Proofs.YtojcoaekhiadcaaGreat
/- THE CELL 'sum', in the pinned program and in every row, IS THE sha256 OF THE DUMP (.gsa) THAT YtojcoaekhiadcaaGreatProg.lean LOADS. Nothing in Lean hashes anything: it is a label: what it is worth is what the hold of that sum in a sandbox is worth. -/
noncomputable def Tryz.pinned : Pinned := { name := "ytojcoaekhiadcaagreat", sum := "255d5c65c2ccd94efdc208dfee06a343bd9f9988234831e146235c0daee3a8b7", checked := Tryz.checked }
namespace Rows
def none {H : Type} : Left H := { results := [], args := [] }

/-- 'quicksettop.TopAlike': WHATEVER THE INPUT: true; the input reads as it did. -/
def topAlikeSpec : ChangeSpec := { name := "topAlike", fn := fun _ => fun
  | [d1, d2, d3, d4, d5] => { results := [.lit (.bool true)], args := [d1, d2, d3, d4, d5] }
  | _ => none }
def topAlikeRow : OpenClaim := { program := "ytojcoaekhiadcaagreat", sum := "255d5c65c2ccd94efdc208dfee06a343bd9f9988234831e146235c0daee3a8b7", func := "quickset/quicksettop.TopAlike", spec := "topAlike", inPlace := ["internal/reflectlite.ValueOf", "internal/reflectlite.Swapper", "(internal/reflectlite.Value).Len", "maps.clone"], unfollowed := true, recurses := true, apart := false }
def TopAlikeSaid : Prop := topAlikeRow.holds Tryz.pinned (OpenSpec.ofChange topAlikeSpec)

/-- ITS FALSE NEIGHBOUR: 'it returns false'. Refute it at one input. -/
def topAlikeWrong : ChangeSpec := { name := "topAlike", fn := fun _ => fun
  | [d1, d2, d3, d4, d5] => { results := [.lit (.bool false)], args := [d1, d2, d3, d4, d5] }
  | _ => none }
def TopAlikeWrongFalsely : Prop := topAlikeRow.holds Tryz.pinned (OpenSpec.ofChange topAlikeWrong)

/-- 'quicksettop.TopLife': WHATEVER THE INPUT: true; the input reads as it did. -/
def topLifeSpec : ChangeSpec := { name := "topLife", fn := fun _ => fun
  | [d1, d2, d3] => { results := [.lit (.bool true)], args := [d1, d2, d3] }
  | _ => none }
def topLifeRow : OpenClaim := { program := "ytojcoaekhiadcaagreat", sum := "255d5c65c2ccd94efdc208dfee06a343bd9f9988234831e146235c0daee3a8b7", func := "quickset/quicksettop.TopLife", spec := "topLife", inPlace := ["internal/reflectlite.ValueOf", "internal/reflectlite.Swapper", "(internal/reflectlite.Value).Len", "maps.clone"], unfollowed := true, recurses := true, apart := false }
def TopLifeSaid : Prop := topLifeRow.holds Tryz.pinned (OpenSpec.ofChange topLifeSpec)

/-- ITS FALSE NEIGHBOUR: 'it returns false'. Refute it at one input. -/
def topLifeWrong : ChangeSpec := { name := "topLife", fn := fun _ => fun
  | [d1, d2, d3] => { results := [.lit (.bool false)], args := [d1, d2, d3] }
  | _ => none }
def TopLifeWrongFalsely : Prop := topLifeRow.holds Tryz.pinned (OpenSpec.ofChange topLifeWrong)

/-- 'quicksetlaw.VaultTells': WHATEVER THE INPUT: true; the input reads as it did. -/
def vaultTellsSpec : ChangeSpec := { name := "vaultTells", fn := fun _ => fun
  | [d1, d2, d3] => { results := [.lit (.bool true)], args := [d1, d2, d3] }
  | _ => none }
def vaultTellsRow : OpenClaim := { program := "ytojcoaekhiadcaagreat", sum := "255d5c65c2ccd94efdc208dfee06a343bd9f9988234831e146235c0daee3a8b7", func := "quickset/quicksetlaw.VaultTells", spec := "vaultTells", inPlace := ["internal/reflectlite.ValueOf", "internal/reflectlite.Swapper", "(internal/reflectlite.Value).Len", "maps.clone"], unfollowed := true, recurses := true, apart := false }
def VaultTellsSaid : Prop := vaultTellsRow.holds Tryz.pinned (OpenSpec.ofChange vaultTellsSpec)

/-- ITS FALSE NEIGHBOUR: 'it returns false'. Refute it at one input. -/
def vaultTellsWrong : ChangeSpec := { name := "vaultTells", fn := fun _ => fun
  | [d1, d2, d3] => { results := [.lit (.bool false)], args := [d1, d2, d3] }
  | _ => none }
def VaultTellsWrongFalsely : Prop := vaultTellsRow.holds Tryz.pinned (OpenSpec.ofChange vaultTellsWrong)

/- THE SECOND FORM. 'bulk': how many values and letters a reading holds, each counted each time it is reached (what is shared counts as often as it is met; a slice's spare places count too). A statement '..UptoSaid' is the law's where the arguments, and the package variables that the reading takes, are together of bulk at most 1048576: NARROWER than '..Said'. Prove '..Said' where nothing that the law and all that it calls make is longer than what came in: it says more and counts as full. Else prove '..UptoSaid'. A law counts once. -/
mutual
def uptoBulk {H : Type} : DataW H → Nat
  | .lit (.string bytes) => bytes.length + 1
  | .lit _ => 1
  | .nil => 1
  | .ptr d => uptoBulk d + 1
  | .slice elems spare => uptoBulkAll elems + uptoBulkAll spare + 1
  | .agg parts => uptoBulkAll parts + 1
  | .iface _ d => uptoBulk d + 1
  | .map entries => uptoBulkEntries entries + 1
  | .held _ => 1
def uptoBulkAll {H : Type} : List (DataW H) → Nat
  | [] => 0
  | d :: r => uptoBulk d + uptoBulkAll r
def uptoBulkEntries {H : Type} : List (Lit × DataW H) → Nat
  | [] => 0
  | x :: r => uptoBulkEntry x + uptoBulkEntries r
def uptoBulkEntry {H : Type} : Lit × DataW H → Nat
  | (.string bytes, d) => bytes.length + uptoBulk d + 1
  | (_, d) => uptoBulk d + 1
 end
def uptoSmall : (H : Type) → List (DataW H) → Bool := fun _ ds => decide (uptoBulkAll ds ≤ 1048576)
def OpenSpec.upto (s : _root_.Go.ChangeSpec) : _root_.Go.OpenSpec := { _root_.Go.OpenSpec.ofChange s with cond := some uptoSmall }

/-- 'quicksettop.TopAlike', WHERE WHAT IT READS IS OF BULK AT MOST 1048576: true; the input reads as it did. -/
def topAlikeUptoRow : OpenClaim := { program := "ytojcoaekhiadcaagreat", sum := "255d5c65c2ccd94efdc208dfee06a343bd9f9988234831e146235c0daee3a8b7", func := "quickset/quicksettop.TopAlike", spec := "topAlike", inPlace := ["internal/reflectlite.ValueOf", "internal/reflectlite.Swapper", "(internal/reflectlite.Value).Len", "maps.clone"], unfollowed := true, recurses := true, apart := false, narrowed := true }
def TopAlikeUptoSaid : Prop := topAlikeUptoRow.holds Tryz.pinned (OpenSpec.upto topAlikeSpec)

/-- 'quicksettop.TopLife', WHERE WHAT IT READS IS OF BULK AT MOST 1048576: true; the input reads as it did. -/
def topLifeUptoRow : OpenClaim := { program := "ytojcoaekhiadcaagreat", sum := "255d5c65c2ccd94efdc208dfee06a343bd9f9988234831e146235c0daee3a8b7", func := "quickset/quicksettop.TopLife", spec := "topLife", inPlace := ["internal/reflectlite.ValueOf", "internal/reflectlite.Swapper", "(internal/reflectlite.Value).Len", "maps.clone"], unfollowed := true, recurses := true, apart := false, narrowed := true }
def TopLifeUptoSaid : Prop := topLifeUptoRow.holds Tryz.pinned (OpenSpec.upto topLifeSpec)

/-- 'quicksetlaw.VaultTells', WHERE WHAT IT READS IS OF BULK AT MOST 1048576: true; the input reads as it did. -/
def vaultTellsUptoRow : OpenClaim := { program := "ytojcoaekhiadcaagreat", sum := "255d5c65c2ccd94efdc208dfee06a343bd9f9988234831e146235c0daee3a8b7", func := "quickset/quicksetlaw.VaultTells", spec := "vaultTells", inPlace := ["internal/reflectlite.ValueOf", "internal/reflectlite.Swapper", "(internal/reflectlite.Value).Len", "maps.clone"], unfollowed := true, recurses := true, apart := false, narrowed := true }
def VaultTellsUptoSaid : Prop := vaultTellsUptoRow.holds Tryz.pinned (OpenSpec.upto vaultTellsSpec)

end Rows
end Go.Proofs.YtojcoaekhiadcaaGreat
