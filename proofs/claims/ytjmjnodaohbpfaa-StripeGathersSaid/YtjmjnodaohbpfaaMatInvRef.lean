/-
  Contract of the reference: the inverse of a matrix.
-/
import Derived.Test.YtjmjnodaohbpfaaMatBigAll
namespace Go.Proofs.Ytjmjnodaohbpfaa.mat
open Go.ChangeShapes Go.WideShapes Go.ChangeAt Go.RowKit Go.Proofs.Ytjmjnodaohbpfaa.kit Go.Proofs.Ytjmjnodaohbpfaa.gf Go.Proofs.Ytjmjnodaohbpfaa.fld Go.Deep
set_option linter.unusedVariables false

def ivCode (n : Nat) (L : Nat → Nat) (M : Nat → Nat → Int) : Int := if mayM n L M = true then (if L 0 = n then (if (stR (fun i k => elN M i k) n n).2 = n then 0 else 10) else 1) else 4
def ivLen (n : Nat) (L : Nat → Nat) (M : Nat → Nat → Int) : Nat := if ivCode n L M = 0 then n else 0
def InvP (n : Nat) (X : Nat → Nat → Nat) (ln : Nat) (cd : Int) (w : World) (e : Ending) (w' : World) : Prop :=
  ∃ v, e = .returned (.tuple #[v, .int .i64 cd]) ∧ (∃ B d R1 C1, v = .slice B ln d ∧ RdM .i64 w' B ln R1 (fun _ => n) C1 (fun i k => (X i k : Nat))) ∧ New w w'
theorem solved_any (A V : Option Addr) (n ca cv kk : Nat) (R : Nat → Option Addr) (L C : Nat → Nat) (M : Nat → Nat → Int) (w : World) (h : RdM .i64 w A n R L C M) (hm : mayM n L M = true) (hL : L 0 = n)
    (hr : (stR (fun i k => elN M i k) n n).2 = n) (hV : RdI .i64 w V n (fun i => (unN kk i : Nat))) (hk : kk < n) :
    Calls Try.prog 31 #[.slice A n ca, .slice V n cv] w (SolP n (fun i => invN (fun i k => elN M i k) n i kk) w) := by
  by_cases h4 : n ≤ 4
  · exact solved_small A V n ca cv kk R L C M w h hm hL hr hV hk h4
  · exact solved_big A V n ca cv kk R L C M w h hm hL hr hV hk h4
/-- the rows of noughts make a matrix -/
theorem sst_of {w wr : World} {n : Nat} {G : Nat → Nat} (h : keepT w wr 29 3 n n n n G (fun _ _ => .int .i64 0)) (hn : n ≤ maxLen) (hG : ∀ i, i < n → w.heap.size ≤ G i) (hinj : ∀ i j, i < n → j < n → G i = G j → i = j) :
    SSt w w.heap.size wr.heap.size (w.heap.size) n n G (fun _ => n) (fun _ _ => 0) wr := by
  refine ⟨⟨⟨Nat.le_refl _, h.2.1.lt⟩, fun i hi => ⟨hG i hi, (h.2.2 i hi).lt⟩, fun i hi => rowIs_ne (h.2.2 i hi) h.2.1 (by decide), hinj, fun i hi => ⟨Nat.le_refl _, hn⟩, ?_, fun i hi => ?_⟩, h.1, Nat.le_refl _⟩
  · obtain ⟨cs, h1, _, h3⟩ := h.2.1
    exact ⟨cs, h1, fun i hi => by rw [h3 i hi]; unfold topF; rw [if_pos hi]⟩
  · exact RowV.of_rowIs (h.2.2 i hi) fun k hk => rfl
end Go.Proofs.Ytjmjnodaohbpfaa.mat
