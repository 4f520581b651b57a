/-
  Contract of the reference's deci: a number's digits.
-/
import Derived.Test.YtaommipcdcncnaaDoorDeskPlain
import Derived.Test.YtaommipcdcncnaaDoorQuietTail
import Derived.Test.YtaommipcdcncnaaDoorProg
import Derived.Test.YtaommipcdcncnaaDoorRowK
import Derived.Laws.Runes
import Derived.Laws.Concat
import Derived.Sort.EncStr
import Derived.Great.Walk
import Derived.BigRegion
import Derived.IntWalk
import Derived.Handy
import Derived.Deep.RegionHeld3
import Derived.Deep.DeepCutAuto
import Derived.Deep.CutBlock
import Derived.Deep.AppendLies
import Derived.Deep.OwnRows
namespace Go.Proofs.YtaommipcdcncnaaDoor.desk
open Go.ChangeShapes Go.WideShapes Go.ChangeAt Go.RowKit Go.Proofs.YtaommipcdcncnaaDoor.kit Go.Deep
set_option linter.unusedVariables false
set_option maxRecDepth 100000
theorem encode_ascii {r : Int} (h0 : 0 ≤ r) (h1 : r < 128) : Utf8.encode r = ⟨[UInt8.ofNat r.toNat].toArray⟩ := by
  have hv : Utf8.valid r = true := by
    rw [validRune_eq]
    unfold validRune
    exact decide_eq_true (.inl ⟨h0, by omega⟩)
  unfold Utf8.encode
  simp only [hv, if_true]
  rw [if_pos (by omega)]
theorem deci_small (n : Int) (h0 : 0 ≤ n) (h1 : n < 10) (w : World) :
    Calls Tryd.prog 23 #[.int .i64 n] w fun e w' => e = .returned (encStr (Lib.itoa n)) ∧ w = w' := by
  have e0 : ¬ n = -9223372036854775808 := by omega
  have e1 : ¬ n < 0 := by omega
  have w1 : IntKind.i64.wrap (48 + n) = 48 + n := IntWalk.i64_in _ (by omega)
  have w2 : IntKind.i32.wrap (48 + n) = 48 + n := by
    unfold IntKind.wrap
    simp [IntKind.bits, IntKind.signed]
    omega
  have hr := Lib.hid (encode_ascii (r := 48 + n) (by omega) (by omega))
  go_enter Tryd.func23, Tryd.ntmps23
  go_wp2
  exact bodyPost_ret (v := .string (Utf8.encode (48 + n))) (by simp [results, Tryd.results23, go_sem]) rfl ⟨by rw [hr.out, itoa_small h0 h1, show (48 + n).toNat = 48 + n.toNat by omega], rfl⟩
theorem deci_big (n : Int) (h1 : ¬ n < 10) (h2 : n ≤ 9223372036854775807) (w : World) (hrec : Calls Tryd.prog 23 #[.int .i64 (n / 10)] w fun e w' => e = .returned (encStr (Lib.itoa (n / 10))) ∧ w = w') (hl : (Lib.itoa (n / 10)).length ≤ 30) :
    Calls Tryd.prog 23 #[.int .i64 n] w fun e w' => e = .returned (encStr (Lib.itoa n)) ∧ w = w' := by
  have e0 : ¬ n = -9223372036854775808 := by omega
  have e1 : ¬ n < 0 := by omega
  have hrH := Lib.hid hrec
  obtain ⟨m, hm⟩ : ∃ m, Hid (m = Lib.itoa (n / 10)) := ⟨_, rfl⟩
  rw [← hm.out] at hrH hl
  obtain ⟨d, hd⟩ : ∃ d, Hid (d = n % 10) := ⟨_, rfl⟩
  have d0 : 0 ≤ d := by rw [hd.out]; exact Int.emod_nonneg _ (by decide)
  have d1 : d < 10 := by rw [hd.out]; exact Int.emod_lt_of_pos _ (by decide)
  have q1 : Int.tdiv n 10 = n / 10 := Int.tdiv_eq_ediv_of_nonneg (by omega)
  have q2 : Int.tmod n 10 = d := by rw [hd.out]; exact Int.tmod_eq_emod_of_nonneg (by omega)
  have w0 : IntKind.i64.wrap (n / 10) = n / 10 := IntWalk.i64_in _ (by omega)
  have w3 : IntKind.i64.wrap d = d := IntWalk.i64_in _ (by omega)
  have w1 : IntKind.i64.wrap (48 + d) = 48 + d := IntWalk.i64_in _ (by omega)
  have w2 : IntKind.i32.wrap (48 + d) = 48 + d := by
    unfold IntKind.wrap
    simp [IntKind.bits, IntKind.signed]
    omega
  have hr := encode_ascii (r := 48 + d) (by omega) (by omega)
  have h1H := Lib.hid h1
  clear hrec
  go_enter Tryd.func23, Tryd.ntmps23
  go_wp2_with (go_at_call 23; refine hrH.out.mono ?_; rintro e w2 ⟨rfl, rfl⟩)
  refine bodyPost_ret (v := .string ((⟨m.toArray⟩ : ByteArray) ++ ⟨[UInt8.ofNat (48 + d).toNat].toArray⟩)) (by simp [results, Tryd.results23, go_sem]) rfl ⟨?_, rfl⟩
  rw [ByteArray.mk_append_mk, itoa_big (n := n) (by omega), ← hm.out, ← hd.out, show (48 + d).toNat = 48 + d.toNat by omega]
theorem itoa_len : ∀ (k : Nat) (n : Int), 0 ≤ n → n < (10 : Int) ^ (k + 1) → (Lib.itoa n).length ≤ k + 1
  | 0, n, h0, h1 => by rw [itoa_small h0 (by simpa using h1)]; simp
  | k + 1, n, h0, h1 => by
    by_cases h : n < 10
    · rw [itoa_small h0 h]; simp
    · rw [itoa_big h, List.length_append]
      have := itoa_len k (n / 10) (Int.ediv_nonneg h0 (by decide)) (by rw [Int.pow_succ] at h1; omega)
      simp
      omega
theorem itoa_len20 {n : Int} (h0 : 0 ≤ n) (h1 : n ≤ 9223372036854775808) : (Lib.itoa n).length ≤ 20 := itoa_len 19 n h0 (by
  have : (10 : Int) ^ (19 + 1) = 100000000000000000000 := by decide
  omega)
theorem itoa_len21 {n : Int} (h0 : -9223372036854775808 ≤ n) (h1 : n ≤ 9223372036854775807) : (Lib.itoa n).length ≤ 21 := by
  by_cases h : n < 0
  · rw [itoa_neg h]
    have := itoa_len20 (n := -n) (by omega) (by omega)
    simp
    omega
  · have := itoa_len20 (n := n) (by omega) (by omega)
    omega
theorem deci_nat : ∀ (k : Nat) (n : Int), n.toNat ≤ k → 0 ≤ n → n ≤ 9223372036854775807 → ∀ w, Calls Tryd.prog 23 #[.int .i64 n] w fun e w' => e = .returned (encStr (Lib.itoa n)) ∧ w = w'
  | 0, n, hk, h0, h1, w => deci_small n h0 (by omega) w
  | k + 1, n, hk, h0, h1, w => by
    by_cases h : n < 10
    · exact deci_small n h0 h w
    · have hq : 0 ≤ n / 10 := Int.ediv_nonneg h0 (by decide)
      exact deci_big n h h1 w (deci_nat k (n / 10) (by omega) hq (by omega) w) (by have := itoa_len20 hq (by omega); omega)
theorem deci_neg (n : Int) (h0 : n < 0) (h1 : -9223372036854775808 < n) (w : World) :
    Calls Tryd.prog 23 #[.int .i64 n] w fun e w' => e = .returned (encStr (Lib.itoa n)) ∧ w = w' := by
  have e0 : ¬ n = -9223372036854775808 := by omega
  have hrH := Lib.hid (deci_nat (-n).toNat (-n) (Nat.le_refl _) (by omega) (by omega) w)
  obtain ⟨m, hm⟩ : ∃ m, Hid (m = Lib.itoa (-n)) := ⟨_, rfl⟩
  have hl : m.length ≤ 20 := by rw [hm.out]; exact itoa_len20 (by omega) (by omega)
  rw [← hm.out] at hrH
  have w0 : IntKind.i64.wrap (-n) = -n := IntWalk.i64_in _ (by omega)
  have hneg : n < 0 := h0
  go_enter Tryd.func23, Tryd.ntmps23
  go_wp2_with (go_at_call 23; refine hrH.out.mono ?_; rintro e w2 ⟨rfl, rfl⟩)
  refine bodyPost_ret (v := .string ((⟨[45].toArray⟩ : ByteArray) ++ ⟨m.toArray⟩)) (by simp [results, Tryd.results23, go_sem]) rfl ⟨?_, rfl⟩
  rw [ByteArray.mk_append_mk, itoa_neg h0, ← hm.out]
  rfl
theorem deci_least (w : World) : Calls Tryd.prog 23 #[.int .i64 (-9223372036854775808)] w fun e w' => e = .returned (encStr (Lib.itoa (-9223372036854775808))) ∧ w = w' := by
  rw [itoa_least]
  go_enter Tryd.func23, Tryd.ntmps23
  go_wp2
  exact bodyPost_ret (v := encStr _) (by simp [results, Tryd.results23, go_sem]) rfl ⟨rfl, rfl⟩
theorem deci_any (n : Int) (h0 : -9223372036854775808 ≤ n) (h1 : n ≤ 9223372036854775807) (w : World) :
    Calls Tryd.prog 23 #[.int .i64 n] w fun e w' => e = .returned (encStr (Lib.itoa n)) ∧ w = w' := by
  by_cases h : n = -9223372036854775808
  · subst h
    exact deci_least w
  · by_cases hn : n < 0
    · exact deci_neg n hn (by omega) w
    · exact deci_nat n.toNat n (Nat.le_refl _) (by omega) h1 w
end Go.Proofs.YtaommipcdcncnaaDoor.desk
