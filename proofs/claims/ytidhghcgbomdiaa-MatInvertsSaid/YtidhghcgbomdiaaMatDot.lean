/-
  Contracts: products of elements, and sums of such.
-/
import Derived.Test.YtidhghcgbomdiaaGf
import Derived.Test.YtidhghcgbomdiaaMatRefMay
import Derived.Test.YtidhghcgbomdiaaMatOpen
namespace Go.Proofs.Ytidhghcgbomdiaa.mat
open Go.ChangeShapes Go.WideShapes Go.ChangeAt Go.RowKit Go.Proofs.Ytidhghcgbomdiaa.kit Go.Proofs.Ytidhghcgbomdiaa.gf
set_option linter.unusedVariables false

/-- a function with a body is entered by its call -/
theorem enter_of {P : Program} {f : FuncId} {fn : Func} {c : Code} (hf : P.funcs[f]? = some fn) (hname : (fn.name == "runtime.NumGoroutine") = false) (hb : fn.body = some c) :
    ∀ (args : Array Value) (w : World), (callFunc f args).run P w = .ok (.enter f args) w := by
  intro args w
  have h1 : fn.name ≠ "runtime.NumGoroutine" := by simpa using hname
  simp [callFunc, hf, h1, hb]
def dotN (f g : Nat → Nat) : Nat → Nat
  | 0 => 0
  | k + 1 => dotN f g k ^^^ mul (f k) (g k)
theorem dotN_lt (f g : Nat → Nat) : ∀ n, (∀ i, i < n → f i < 256) → dotN f g n < 256
  | 0, _ => (by decide : 0 < 256)
  | k + 1, h => xor_lt8 (dotN_lt f g k fun i hi => h i (by omega)) (mul_lt _ _ (h k (by omega)))
theorem isB_of {a : Nat} (ha : a < 256) : isB (a : Int) := by unfold isB; omega
theorem times_ok (a b : Nat) (ha : a < 256) (hb : b < 256) (w : World) :
    Calls Try.prog 59 #[.int .i64 a, .int .i64 b] w fun e w' => e = .returned (.int .i64 (mul a b : Nat)) ∧ New w w' := by
  go_enter Try.func59, Try.ntmps59
  go_wp2_with fail
  refine (Mul_any a b _ (by omega) (by omega) (by omega) (by omega)).mono ?_
  have hv : mulV a b = (mul a b : Nat) := by unfold mulV; rw [if_pos ⟨isB_of ha, isB_of hb⟩]; simp
  have he : mulE a b = 0 := by unfold mulE; rw [if_pos ⟨isB_of ha, isB_of hb⟩]
  rw [hv, he]
  clear hv he
  rintro e w1 ⟨rfl, hn1⟩
  go_wp2
  go_ret
  exact ⟨rfl, hn1⟩
theorem dot_any (n : Nat) (hn : n ≤ 8) (k : Nat) (eg : ∀ args w, (callFunc k args).run Try.prog w = .ok (.enter k args) w) (caps : Array Value) (f g : Nat → Nat) (hf : ∀ i, i < n → f i < 256) (hg : ∀ i, i < n → g i < 256) (w : World)
    (hF : ∀ i w1, i < n → New w w1 → Calls Try.prog k (#[.int .i64 i] ++ caps) w1 fun e w' => e = .returned (.tuple #[.int .i64 (f i : Nat), .int .i64 (g i : Nat)]) ∧ New w1 w') :
    Calls Try.prog 48 #[.int .i64 n, .func (.func k) #[] caps] w fun e w' => e = .returned (.int .i64 (dotN f g n : Nat)) ∧ New w w' := by
  have hF1 := Lib.hid hF
  clear hF
  go_enter Try.func48, Try.ntmps48
  go_wp2
  go_loopw [8, 5] (fun c s wr => ∃ i : Nat, c = .int .i64 i ∧ i ≤ n ∧ s = .int .i64 (dotN f g i : Nat) ∧ New w wr) (fun c _ _ => n - (intOf c).toNat)
  case atStart => exact ⟨0, rfl, by omega, rfl, New.refl _⟩
  case round =>
    obtain ⟨i, rfl, hi, rfl, hnw⟩ := hrel
    by_cases hlt : i < n
    · obtain ⟨s, hs⟩ : ∃ s, Hid (s = dotN f g i) := ⟨_, (rfl : _ = _)⟩
      have hsl : s < 256 := by rw [hs.out]; exact dotN_lt f g i fun j hj => hf j (by omega)
      rw [← hs.out]
      go_wp2_with fail
      refine (hF1.out i _ hlt hnw).mono ?_
      rintro e w1 ⟨rfl, hn1⟩
      go_wp2_with fail
      refine (times_ok (f i) (g i) (hf i hlt) (hg i hlt) _).mono ?_
      rintro e w2 ⟨rfl, hn2⟩
      obtain ⟨p, hp⟩ : ∃ p, Hid (p = mul (f i) (g i)) := ⟨_, (rfl : _ = _)⟩
      have hpl : p < 256 := by rw [hp.out]; exact mul_lt _ _ (hf i hlt)
      rw [← hp.out]
      have hx := i64_xor_nat s p (by omega) (by omega)
      go_wp2
      go_roundw
      case rel => exact ⟨i + 1, by go_num, by omega, by rw [show dotN f g (i + 1) = s ^^^ p by rw [hs.out, hp.out]; rfl], (hnw.next hn1).next hn2⟩
      case measure => simp [intOf]; omega
    · have hin : i = n := by omega
      subst hin
      go_wp2
      go_ret
      exact ⟨rfl, hnw⟩
end Go.Proofs.Ytidhghcgbomdiaa.mat
