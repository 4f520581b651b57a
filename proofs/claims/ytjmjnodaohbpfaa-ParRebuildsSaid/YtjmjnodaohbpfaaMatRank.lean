/-
  Contracts: the rank of a matrix, by the two texts.
-/
import Derived.Test.YtjmjnodaohbpfaaMatSwept
import Derived.Deep.RegionHeld3
namespace Go.Proofs.Ytjmjnodaohbpfaa.mat
open Go.ChangeShapes Go.WideShapes Go.ChangeAt Go.RowKit Go.Proofs.Ytjmjnodaohbpfaa.kit Go.Proofs.Ytjmjnodaohbpfaa.gf Go.Deep
set_option linter.unusedVariables false

def rkVal (n : Nat) (L : Nat → Nat) (M : Nat → Nat → Int) : Int := if mayM n L M = true then ((stR (fun i k => elN M i k) n (L 0)).2 : Nat) else 0
def rkCode (n : Nat) (L : Nat → Nat) (M : Nat → Nat → Int) : Int := if mayM n L M = true then 0 else 4
theorem elN_bytes {n m : Nat} {L : Nat → Nat} {M : Nat → Nat → Int} (hm : mayM n L M = true) (hL : L 0 = m) : bytesP (fun i k => elN M i k) n m := fun i k hi hk => by
  have h1 := (mayM_out hm).2.2 i hi
  have := allE_out h1.2.2.2 k (by have := h1.1; omega)
  unfold elP at this
  show (M i k).toNat < 256
  omega
theorem besZ_bytes {n m more : Nat} {L : Nat → Nat} {M : Nat → Nat → Int} (hm : mayM n L M = true) (hL : L 0 = m) : bytesP (besZ M m more) n (m + more) := fun i k hi hk => by
  unfold besZ
  split
  · exact elN_bytes hm hL i k hi (by assumption)
  · split <;> omega
end Go.Proofs.Ytjmjnodaohbpfaa.mat
