/-
  The law quicksetlaw.GeomSpots returns true for every input and leaves its arguments alone; no condition.
-/
import Derived.Test.YtpknpmmcploacaaRows
import Derived.WalkKit
import Derived.ProofKit
import Derived.OpenShut
import Derived.Deep.QuietTactic
import Derived.BigQuiet
import Derived.Lib.Hide
namespace Go.Proofs.Ytpknpmmcploacaa.geomSpots
open Go.ChangeShapes Go.WideShapes Go.ChangeAt Go.RowKit
set_option linter.unusedVariables false      -- a walk need not use every 'w<i>' (that an integer argument fits its kind)

theorem own : ownKnob Try.prog.godebug = none := by kernel_rfl


/-! ### The plain functions -/
def good (d a : Int) : Prop := 2 ≤ d ∧ d ≤ 8 ∧ 0 ≤ a ∧ a ≤ 65536
instance (d a : Int) : Decidable (good d a) := by unfold good; infer_instance
def sD (d a : Int) : Int := if good d a then a % d else 0
def sA (d a : Int) : Int := if good d a then a / d else 0
def sE (d a : Int) : Int := if good d a then 0 else 2
theorem ret3 {a b c a' b' c' : Int} (h1 : a = a') (h2 : b = b') (h3 : c = c') :
    Ending.returned (.tuple #[.int .i64 a, .int .i64 b, .int .i64 c]) = .returned (.tuple #[.int .i64 a', .int .i64 b', .int .i64 c']) := by rw [h1, h2, h3]

theorem addressed_any (a : Int) (w : World) :
    Calls Try.prog 39 #[.int .i64 a] w fun e w' => e = .returned (.bool (decide (0 ≤ a ∧ a ≤ 65536))) ∧ w = w' := by
  by_cases h : 0 ≤ a <;> by_cases h2 : a ≤ 65536
  all_goals
    go_enter Try.func39, Try.ntmps39
    go_wp2
    go_ret
    exact ⟨by simp; omega, rfl⟩
theorem spot_any (d a : Int) (w : World) :
    Calls Try.prog 15 #[.int .i64 d, .int .i64 a] w fun e w' => e = .returned (.tuple #[.int .i64 (sD d a), .int .i64 (sA d a), .int .i64 (sE d a)]) ∧ ∃ n, w' = w.drewN n := by
  by_cases h : good d a
  · have hh := h
    obtain ⟨h1, h2, h3, h4⟩ := hh
    have hd : (d == 0) = false := by simp; omega
    have hr : decide (0 ≤ a ∧ a ≤ 65536) = true := by simp; omega
    have H := Lib.hid h
    clear h
    go_enter Try.func15, Try.ntmps15
    go_wp2_with (go_at_call 39; refine (addressed_any _ _).mono ?_; rintro e w' ⟨rfl, rfl⟩)
    go_quiet (fail)
    go_wp2
    go_ret3
    exact ⟨ret3 (if_pos H.out).symm (if_pos H.out).symm (if_pos H.out).symm, _, rfl⟩
  · have H := Lib.hid h
    by_cases h1 : 2 ≤ d <;> by_cases h2 : d ≤ 8 <;> by_cases h3 : 0 ≤ a ∧ a ≤ 65536
    all_goals first
    | (exfalso; unfold good at h; omega)
    | skip
    all_goals
      try (have hr : decide (0 ≤ a ∧ a ≤ 65536) = false := by simp; omega)
      clear h h3
      go_enter Try.func15, Try.ntmps15
      go_wp2_with (go_at_call 39; refine (addressed_any _ _).mono ?_; rintro e w' ⟨rfl, rfl⟩)
      go_ret3
      exact ⟨ret3 (if_neg H.out).symm (if_neg H.out).symm (if_neg H.out).symm, 0, rfl⟩
theorem rspot_any (d a : Int) (w : World) :
    Calls Try.prog 16 #[.int .i64 d, .int .i64 a] w fun e w' => e = .returned (.tuple #[.int .i64 (sD d a), .int .i64 (sA d a), .int .i64 (sE d a)]) ∧ w = w' := by
  by_cases h : good d a
  · have hh := h
    obtain ⟨h1, h2, h3, h4⟩ := hh
    have hd : (d == 0) = false := by simp; omega
    have hm : a - a / d * d = a % d := by rw [Int.mul_comm]; have := Int.mul_ediv_add_emod a d; omega
    have hb : 0 ≤ a / d * d ∧ a / d * d ≤ a := by have := Int.emod_nonneg a (b := d) (by omega); have := Int.emod_lt_of_pos a (b := d) (by omega); have : 0 ≤ a / d * d := Int.mul_nonneg (Int.ediv_nonneg h3 (by omega)) (by omega); omega
    have H := Lib.hid h
    have HM := Lib.hid hm
    clear hm h
    go_enter Try.func16, Try.ntmps16
    go_wp2
    go_ret3
    exact ⟨ret3 (by rw [HM.out]; exact (if_pos H.out).symm) (if_pos H.out).symm (if_pos H.out).symm, rfl⟩
  · have H := Lib.hid h
    by_cases h1 : 2 ≤ d <;> by_cases h2 : d ≤ 8 <;> by_cases h3 : 0 ≤ a <;> by_cases h4 : a ≤ 65536
    all_goals first
    | (exfalso; unfold good at h; omega)
    | skip
    all_goals
      clear h
      go_enter Try.func16, Try.ntmps16
      go_wp2
      go_ret3
      exact ⟨ret3 (if_neg H.out).symm (if_neg H.out).symm (if_neg H.out).symm, rfl⟩
theorem walk (a0 : Int) (a1 : Int) (w0 : (Lit.int .i64 a0).wf = true) (w1 : (Lit.int .i64 a1).wf = true) (w : World) :
    Calls Try.prog 4 #[.int .i64 a0, .int .i64 a1] w fun e w' => e = .returned (.bool true) ∧ Grown w w' := by
  clear w0 w1
  go_enter Try.func4, Try.ntmps4
  go_wp2_with (first | (go_at_call 15; refine (spot_any _ _ _).mono ?_; rintro e w' ⟨rfl, n, rfl⟩) | (go_at_call 16; refine (rspot_any _ _ _).mono ?_; rintro e w' ⟨rfl, rfl⟩))
  go_ret
  exact ⟨rfl, Grown.refl _⟩

/-! ### THE ROW's STEP: WRITTEN OUT: LEAVE IT -/
set_option maxRecDepth 100000 in
theorem lifted (os : Os) (started : os.Started) (H : Type) (enc : TypeId × Value → H) :
    ReturnsInHanded {} Try.checked os 4 .any (Rows.geomSpotsSpec.pre6 enc Try.prog Try.f4 Rows.geomSpotsRow.domain false) (Rows.geomSpotsSpec.post enc Try.prog Try.f4 false true false false) := by
  refine returnsInHanded_of_change (C := Try.checked) own started (by kernel_rfl) Try.func4
    (ChangeSpec.witness6 (enc := enc) (C := Try.checked) false ⟨#[], #[.int .i64 0, .int .i64 0], []⟩ 8 (by kernel_rfl) (by kernel_rfl) (by kernel_rfl) (by kernel_rfl)) ?_
  intro W base args ds gs before hval0 hW hcnd _
  have hval : ∀ (j : Nat) t v, Try.f4.params[j]? = some t → args[j]? = some v → Value.okWide Try.prog W .any base t v := hval0
  have hW' := hW
  obtain ⟨p, q, hA0, hV, rfl, hfz, hnd⟩ := hW
  have hA : DataW.TrodAll enc Try.prog W 0 (fun _ => true) true Try.f4.params.toList args.toList ds p := hA0
  rw [Try.params4] at hA hval
  obtain ⟨v0, vs0, d0, ds0, p0, q0, hargs, rfl, rfl, h0, r0⟩ := trodAll_cons hA
  obtain ⟨v1, vs1, d1, ds1, p1, q1, rfl, rfl, rfl, h1, r1⟩ := trodAll_cons r0
  obtain ⟨rfl, rfl, rfl⟩ := trodAll_nil r1
  obtain rfl : args = #[v0, v1] := by cases args; simp_all
  obtain ⟨rfl, rfl⟩ := trodVars_none hV
  obtain ⟨a0, rfl, rfl, rfl, w0⟩ := open_int Try.underlying3 (hval 0 3 v0 rfl rfl) h0
  obtain ⟨a1, rfl, rfl, rfl, w1⟩ := open_int Try.underlying3 (hval 1 3 v1 rfl rfl) h1
  clear hA0 hval0
  simp only [List.append_nil] at hW'
  refine (walk a0 a1 w0 w1 W).mono fun e W' ⟨he, hg⟩ => ?_
  subst he
  exact ⟨_, rfl, post_of_same (pa := []) (pv := []) hW' (fun _ _ _ => (trodAll_cons_mk (shut_bool Try.underlying4 _) trodAll_mk0)) (fun sp _ => (trodAll_cons_mk (shut_int Try.underlying3 w0) (trodAll_cons_mk (shut_int Try.underlying3 w1) trodAll_mk0))) (fun _ _ => rfl) rfl
    (hg.frame _) hg.2.1 (ok_one (by kernel_rfl) rfl (okWide_bool_mk Try.underlying4 _))⟩

theorem over : Rows.geomSpotsRow.holds Try.pinned (OpenSpec.ofChange Rows.geomSpotsSpec) :=
  OpenClaim.holds_of_wide 4 Try.f4 rfl rfl rfl rfl rfl rfl rfl ⟨rfl, rfl, rfl, rfl, rfl⟩ rfl rfl rfl rfl rfl (by kernel_rfl) Try.func4 (by kernel_rfl)
    (of_decide_eq_true (by kernel_rfl)) (by unfold Func.isWrapper; first | (rw [if_pos (by decide +kernel)]; kernel_rfl) | (rw [if_neg (by decide +kernel)]; exact ⟨rfl, rfl⟩))
    (fun os started H enc _ => lifted os started H enc)

/-- The statement. -/
theorem proved : Rows.GeomSpotsSaid :=
  over
#print axioms proved
end Go.Proofs.Ytpknpmmcploacaa.geomSpots
