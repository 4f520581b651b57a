/-
  No cell of these rows narrows 'for every input' (looked for: loops, veiled, ifaces, maps, wideKeys, modest, calm, conditions, laid).
  DERIVED. THE GIVEN ROWS OF THIS SEAT. 5 by the template 'for every input the law returns true; each argument reads behind the call as it read before'; 0 by the template 'total and deterministic' (their statements: YtjmjnodaohbpfaaTotals.lean).
  GIVEN WITH THE SEED: the statements are not yours to turn. If you find one false, say at which input.
  Laid BY PROGRAM, IN A SANDBOX (cutbox-rows.mjs): the forced cells as the released guide's own fill.sh prints them over the translation c03bac55fd7fc486… (all of the seat's roots in one cut). By AI agents, Wed Nov 11 2026. No macro, syntax, notation, axiom, sorry.
-/
import Derived.Test.YtjmjnodaohbpfaaChecked
import GoSem.Claim
import GoSem.ClaimJoined
import GoSem.ClaimMapViews
import Derived.JoinedTies
import Derived.KernelRfl
namespace Go.Proofs.Ytjmjnodaohbpfaa
/- THE CELL 'sum', in the pinned program and in every row, IS THE sha256 OF THE DUMP (.gsa) THAT YtjmjnodaohbpfaaProg.lean LOADS. Nothing in Lean hashes anything: it is a label: what it is worth is what the hold of that sum in a sandbox is worth. -/
noncomputable def Try.pinned : Pinned := { name := "ytjmjnodaohbpfaa", sum := "c03bac55fd7fc48610bb44f21526ed23bdb8247e9e8a6cb20f5af510233c1104", checked := Try.checked }
namespace Rows
def none {H : Type} : Left H := { results := [], args := [] }

/-- 'quicksetlaw.ParMays': WHATEVER THE INPUT: true; the input reads as it did. -/
def parMaysSpec : ChangeSpec := { name := "parMays", fn := fun _ => fun
  | [d] => { results := [.lit (.bool true)], args := [d] }
  | _ => none }
def parMaysRow : OpenClaim := { program := "ytjmjnodaohbpfaa", sum := "c03bac55fd7fc48610bb44f21526ed23bdb8247e9e8a6cb20f5af510233c1104", func := "quickset/quicksetlaw.ParMays", spec := "parMays", unfollowed := true, recurses := true, apart := false }
def ParMaysSaid : Prop := parMaysRow.holds Try.pinned (OpenSpec.ofChange parMaysSpec)

/-- ITS FALSE NEIGHBOUR: 'it returns false'. Refute it at one input. -/
def parMaysWrong : ChangeSpec := { name := "parMays", fn := fun _ => fun
  | [d] => { results := [.lit (.bool false)], args := [d] }
  | _ => none }
def ParMaysWrongFalsely : Prop := parMaysRow.holds Try.pinned (OpenSpec.ofChange parMaysWrong)

/-- 'quicksetlaw.ParEncodes': WHATEVER THE INPUT: true; the input reads as it did. -/
def parEncodesSpec : ChangeSpec := { name := "parEncodes", fn := fun _ => fun
  | [d1, d2] => { results := [.lit (.bool true)], args := [d1, d2] }
  | _ => none }
def parEncodesRow : OpenClaim := { program := "ytjmjnodaohbpfaa", sum := "c03bac55fd7fc48610bb44f21526ed23bdb8247e9e8a6cb20f5af510233c1104", func := "quickset/quicksetlaw.ParEncodes", spec := "parEncodes", unfollowed := true, recurses := true, apart := false }
def ParEncodesSaid : Prop := parEncodesRow.holds Try.pinned (OpenSpec.ofChange parEncodesSpec)

/-- ITS FALSE NEIGHBOUR: 'it returns false'. Refute it at one input. -/
def parEncodesWrong : ChangeSpec := { name := "parEncodes", fn := fun _ => fun
  | [d1, d2] => { results := [.lit (.bool false)], args := [d1, d2] }
  | _ => none }
def ParEncodesWrongFalsely : Prop := parEncodesRow.holds Try.pinned (OpenSpec.ofChange parEncodesWrong)

/-- 'quicksetlaw.ParRebuilds': WHATEVER THE INPUT: true; the input reads as it did. -/
def parRebuildsSpec : ChangeSpec := { name := "parRebuilds", fn := fun _ => fun
  | [d1, d2, d3] => { results := [.lit (.bool true)], args := [d1, d2, d3] }
  | _ => none }
def parRebuildsRow : OpenClaim := { program := "ytjmjnodaohbpfaa", sum := "c03bac55fd7fc48610bb44f21526ed23bdb8247e9e8a6cb20f5af510233c1104", func := "quickset/quicksetlaw.ParRebuilds", spec := "parRebuilds", unfollowed := true, recurses := true, apart := false }
def ParRebuildsSaid : Prop := parRebuildsRow.holds Try.pinned (OpenSpec.ofChange parRebuildsSpec)

/-- ITS FALSE NEIGHBOUR: 'it returns false'. Refute it at one input. -/
def parRebuildsWrong : ChangeSpec := { name := "parRebuilds", fn := fun _ => fun
  | [d1, d2, d3] => { results := [.lit (.bool false)], args := [d1, d2, d3] }
  | _ => none }
def ParRebuildsWrongFalsely : Prop := parRebuildsRow.holds Try.pinned (OpenSpec.ofChange parRebuildsWrong)

/-- 'quicksetlaw.StripeLays': WHATEVER THE INPUT: true; the input reads as it did. -/
def stripeLaysSpec : ChangeSpec := { name := "stripeLays", fn := fun _ => fun
  | [d1, d2, d3, d4] => { results := [.lit (.bool true)], args := [d1, d2, d3, d4] }
  | _ => none }
def stripeLaysRow : OpenClaim := { program := "ytjmjnodaohbpfaa", sum := "c03bac55fd7fc48610bb44f21526ed23bdb8247e9e8a6cb20f5af510233c1104", func := "quickset/quicksetlaw.StripeLays", spec := "stripeLays", unfollowed := true, recurses := true, apart := false }
def StripeLaysSaid : Prop := stripeLaysRow.holds Try.pinned (OpenSpec.ofChange stripeLaysSpec)

/-- ITS FALSE NEIGHBOUR: 'it returns false'. Refute it at one input. -/
def stripeLaysWrong : ChangeSpec := { name := "stripeLays", fn := fun _ => fun
  | [d1, d2, d3, d4] => { results := [.lit (.bool false)], args := [d1, d2, d3, d4] }
  | _ => none }
def StripeLaysWrongFalsely : Prop := stripeLaysRow.holds Try.pinned (OpenSpec.ofChange stripeLaysWrong)

/-- 'quicksetlaw.StripeGathers': WHATEVER THE INPUT: true; the input reads as it did. -/
def stripeGathersSpec : ChangeSpec := { name := "stripeGathers", fn := fun _ => fun
  | [d1, d2, d3, d4, d5, d6] => { results := [.lit (.bool true)], args := [d1, d2, d3, d4, d5, d6] }
  | _ => none }
def stripeGathersRow : OpenClaim := { program := "ytjmjnodaohbpfaa", sum := "c03bac55fd7fc48610bb44f21526ed23bdb8247e9e8a6cb20f5af510233c1104", func := "quickset/quicksetlaw.StripeGathers", spec := "stripeGathers", unfollowed := true, recurses := true, apart := false }
def StripeGathersSaid : Prop := stripeGathersRow.holds Try.pinned (OpenSpec.ofChange stripeGathersSpec)

/-- ITS FALSE NEIGHBOUR: 'it returns false'. Refute it at one input. -/
def stripeGathersWrong : ChangeSpec := { name := "stripeGathers", fn := fun _ => fun
  | [d1, d2, d3, d4, d5, d6] => { results := [.lit (.bool false)], args := [d1, d2, d3, d4, d5, d6] }
  | _ => none }
def StripeGathersWrongFalsely : Prop := stripeGathersRow.holds Try.pinned (OpenSpec.ofChange stripeGathersWrong)

/- THE SECOND FORM. 'bulk': how many values and letters a reading holds, each counted each time it is reached (what is shared counts as often as it is met; a slice's spare places count too). A statement '..UptoSaid' is the law's where the arguments, and the package variables that the reading takes, are together of bulk at most 1048576: NARROWER than '..Said'. Prove '..Said' where nothing that the law and all that it calls make is longer than what came in: it says more and counts as full. Else prove '..UptoSaid'. A law counts once. -/
mutual
def uptoBulk {H : Type} : DataW H → Nat
  | .lit (.string bytes) => bytes.length + 1
  | .lit _ => 1
  | .nil => 1
  | .ptr d => uptoBulk d + 1
  | .slice elems spare => uptoBulkAll elems + uptoBulkAll spare + 1
  | .agg parts => uptoBulkAll parts + 1
  | .iface _ d => uptoBulk d + 1
  | .map entries => uptoBulkEntries entries + 1
  | .held _ => 1
def uptoBulkAll {H : Type} : List (DataW H) → Nat
  | [] => 0
  | d :: r => uptoBulk d + uptoBulkAll r
def uptoBulkEntries {H : Type} : List (Lit × DataW H) → Nat
  | [] => 0
  | x :: r => uptoBulkEntry x + uptoBulkEntries r
def uptoBulkEntry {H : Type} : Lit × DataW H → Nat
  | (.string bytes, d) => bytes.length + uptoBulk d + 1
  | (_, d) => uptoBulk d + 1
 end
def uptoSmall : (H : Type) → List (DataW H) → Bool := fun _ ds => decide (uptoBulkAll ds ≤ 1048576)
def OpenSpec.upto (s : _root_.Go.ChangeSpec) : _root_.Go.OpenSpec := { _root_.Go.OpenSpec.ofChange s with cond := some uptoSmall }

/-- 'quicksetlaw.ParMays', WHERE WHAT IT READS IS OF BULK AT MOST 1048576: true; the input reads as it did. -/
def parMaysUptoRow : OpenClaim := { program := "ytjmjnodaohbpfaa", sum := "c03bac55fd7fc48610bb44f21526ed23bdb8247e9e8a6cb20f5af510233c1104", func := "quickset/quicksetlaw.ParMays", spec := "parMays", unfollowed := true, recurses := true, apart := false, narrowed := true }
def ParMaysUptoSaid : Prop := parMaysUptoRow.holds Try.pinned (OpenSpec.upto parMaysSpec)

/-- 'quicksetlaw.ParEncodes', WHERE WHAT IT READS IS OF BULK AT MOST 1048576: true; the input reads as it did. -/
def parEncodesUptoRow : OpenClaim := { program := "ytjmjnodaohbpfaa", sum := "c03bac55fd7fc48610bb44f21526ed23bdb8247e9e8a6cb20f5af510233c1104", func := "quickset/quicksetlaw.ParEncodes", spec := "parEncodes", unfollowed := true, recurses := true, apart := false, narrowed := true }
def ParEncodesUptoSaid : Prop := parEncodesUptoRow.holds Try.pinned (OpenSpec.upto parEncodesSpec)

/-- 'quicksetlaw.ParRebuilds', WHERE WHAT IT READS IS OF BULK AT MOST 1048576: true; the input reads as it did. -/
def parRebuildsUptoRow : OpenClaim := { program := "ytjmjnodaohbpfaa", sum := "c03bac55fd7fc48610bb44f21526ed23bdb8247e9e8a6cb20f5af510233c1104", func := "quickset/quicksetlaw.ParRebuilds", spec := "parRebuilds", unfollowed := true, recurses := true, apart := false, narrowed := true }
def ParRebuildsUptoSaid : Prop := parRebuildsUptoRow.holds Try.pinned (OpenSpec.upto parRebuildsSpec)

/-- 'quicksetlaw.StripeLays', WHERE WHAT IT READS IS OF BULK AT MOST 1048576: true; the input reads as it did. -/
def stripeLaysUptoRow : OpenClaim := { program := "ytjmjnodaohbpfaa", sum := "c03bac55fd7fc48610bb44f21526ed23bdb8247e9e8a6cb20f5af510233c1104", func := "quickset/quicksetlaw.StripeLays", spec := "stripeLays", unfollowed := true, recurses := true, apart := false, narrowed := true }
def StripeLaysUptoSaid : Prop := stripeLaysUptoRow.holds Try.pinned (OpenSpec.upto stripeLaysSpec)

/-- 'quicksetlaw.StripeGathers', WHERE WHAT IT READS IS OF BULK AT MOST 1048576: true; the input reads as it did. -/
def stripeGathersUptoRow : OpenClaim := { program := "ytjmjnodaohbpfaa", sum := "c03bac55fd7fc48610bb44f21526ed23bdb8247e9e8a6cb20f5af510233c1104", func := "quickset/quicksetlaw.StripeGathers", spec := "stripeGathers", unfollowed := true, recurses := true, apart := false, narrowed := true }
def StripeGathersUptoSaid : Prop := stripeGathersUptoRow.holds Try.pinned (OpenSpec.upto stripeGathersSpec)

end Rows
end Go.Proofs.Ytjmjnodaohbpfaa
