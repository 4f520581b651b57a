/-
  Contracts: products of elements, and sums of such.
-/
import Derived.Test.YtjmjnodaohbpfaaGf
import Derived.Test.YtjmjnodaohbpfaaMatRefMay
import Derived.Test.YtjmjnodaohbpfaaMatOpen
namespace Go.Proofs.Ytjmjnodaohbpfaa.mat
open Go.ChangeShapes Go.WideShapes Go.ChangeAt Go.RowKit Go.Proofs.Ytjmjnodaohbpfaa.kit Go.Proofs.Ytjmjnodaohbpfaa.gf
set_option linter.unusedVariables false

/-- a function with a body is entered by its call -/
theorem enter_of {P : Program} {f : FuncId} {fn : Func} {c : Code} (hf : P.funcs[f]? = some fn) (hname : (fn.name == "runtime.NumGoroutine") = false) (hb : fn.body = some c) :
    ∀ (args : Array Value) (w : World), (callFunc f args).run P w = .ok (.enter f args) w := by
  intro args w
  have h1 : fn.name ≠ "runtime.NumGoroutine" := by simpa using hname
  simp [callFunc, hf, h1, hb]
def dotN (f g : Nat → Nat) : Nat → Nat
  | 0 => 0
  | k + 1 => dotN f g k ^^^ mul (f k) (g k)
theorem dotN_lt (f g : Nat → Nat) : ∀ n, (∀ i, i < n → f i < 256) → dotN f g n < 256
  | 0, _ => (by decide : 0 < 256)
  | k + 1, h => xor_lt8 (dotN_lt f g k fun i hi => h i (by omega)) (mul_lt _ _ (h k (by omega)))
theorem isB_of {a : Nat} (ha : a < 256) : isB (a : Int) := by unfold isB; omega
theorem times_ok (a b : Nat) (ha : a < 256) (hb : b < 256) (w : World) :
    Calls Try.prog 82 #[.int .i64 a, .int .i64 b] w fun e w' => e = .returned (.int .i64 (mul a b : Nat)) ∧ New w w' := by
  go_enter Try.func82, Try.ntmps82
  go_wp2_with fail
  refine (Mul_any a b _ (by omega) (by omega) (by omega) (by omega)).mono ?_
  have hv : mulV a b = (mul a b : Nat) := by unfold mulV; rw [if_pos ⟨isB_of ha, isB_of hb⟩]; simp
  have he : mulE a b = 0 := by unfold mulE; rw [if_pos ⟨isB_of ha, isB_of hb⟩]
  rw [hv, he]
  clear hv he
  rintro e w1 ⟨rfl, hn1⟩
  go_wp2
  go_ret
  exact ⟨rfl, hn1⟩
end Go.Proofs.Ytjmjnodaohbpfaa.mat
