/-
  Contracts of package gf and of the reference's gf.go.
-/
import Derived.Test.YtjmjnodaohbpfaaProg
import Derived.Test.YtjmjnodaohbpfaaGfPlain
import Derived.Test.YtjmjnodaohbpfaaBits
import Derived.Test.YtjmjnodaohbpfaaKit
namespace Go.Proofs.Ytjmjnodaohbpfaa.gf
open Go.ChangeShapes Go.WideShapes Go.ChangeAt Go.RowKit Go.Proofs.Ytjmjnodaohbpfaa.kit

attribute [local irreducible] mul expT logT divN pw
def isB (x : Int) : Prop := 0 ≤ x ∧ x ≤ 255
instance (x : Int) : Decidable (isB x) := by unfold isB; infer_instance
theorem mask_isB (x : Int) (h1 : -9223372036854775808 ≤ x) (h2 : x ≤ 9223372036854775807) : (bits .andNot .i64 x 255 != 0) = !decide (isB x) := by
  rw [i64_mask255 x h1 h2]
  exact congrArg _ (decide_eq_decide.2 Iff.rfl)
theorem times_any (a b : Nat) (ha : a < 256) (hb : b < 256) (w : World) :
    Calls Try.prog 76 #[.int .i64 a, .int .i64 b] w fun e w' => e = .returned (.int .i64 (mul a b : Nat)) ∧ w = w' := by
  have h0 : Hid (tmN 8 a b 0 = mul a b) := tm_mul a b
  go_enter Try.func76, Try.ntmps76
  go_wp2
  go_loopg [0, 1, 5] 8 (fun k a1 b1 o1 wr => ∃ x y z : Nat, a1 = .int .i64 x ∧ b1 = .int .i64 y ∧ o1 = .int .i64 z ∧ x < 256 ∧ y < 256 ∧ z < 256 ∧ Hid (y < 2 ^ k ∧ tmN k x y z = mul a b) ∧ wr = w)
  case atStart => exact ⟨a, b, 0, rfl, rfl, rfl, ha, hb, by omega, ⟨by simpa using hb, h0⟩, rfl⟩
  case round =>
    obtain ⟨x, y, z, rfl, rfl, rfl, hx, hy, hz, hh, rfl⟩ := hrel
    by_cases hy0 : y = 0
    · subst hy0
      have hz' : z = mul a b := by
        have := hh.out.2
        cases gk with
        | zero => exact this
        | succ g => simpa [tmN] using this
      have hz' := Lib.hid hz'
      clear hh h0
      go_wp2
      go_ret
      exact ⟨ret1 (by rw [hz'.out]), rfl⟩
    · have hnext : ∃ g, Hid (gk = g + 1 ∧ y / 2 < 2 ^ g ∧ tmN g (xt x) (y / 2) (if y % 2 = 1 then z ^^^ x else z) = mul a b) := by
        obtain ⟨h1, h2⟩ := hh.out
        cases gk with
        | zero => simp at h1; omega
        | succ g =>
          refine ⟨g, rfl, by rw [Nat.pow_succ] at h1; omega, ?_⟩
          rw [tmN, if_neg hy0] at h2
          exact h2
      obtain ⟨g, HG⟩ := hnext
      have hp : 0 < y := by omega
      have hxor : bits BinOp.xor IntKind.i64 ↑z ↑x = ((z ^^^ x : Nat) : Int) := i64_xor_nat _ _ (by omega) (by omega)
      have hxr2 : bits BinOp.xor IntKind.i64 (↑x * 2) 285 = ((x * 2 ^^^ 285 : Nat) : Int) := by
        have := i64_xor_nat (x * 2) 285 (by omega) (by omega)
        simpa using this
      have hodd := i64_odd y (by omega)
      have hlt := Lib.hid (xt_lt x hx)
      have hlz := Lib.hid (xor_lt8 hz hx)
      by_cases hb1 : y % 2 = 1
      · have hbit : (bits BinOp.and IntKind.i64 (↑y) 1 == 1) = true := by rw [hodd, hb1]; rfl
        have hb1 := Lib.hid hb1
        clear hodd hh h0
        by_cases hc : 255 < x * 2
        · have hc1 : (255 : Int) < (x : Int) * 2 := by omega
          have he := Lib.hid (show xt x = (x * 2) ^^^ 285 from if_pos hc)
          clear hc
          go_wp2
          obtain ⟨g1, g2, g3⟩ := HG.out
          rw [← he.out]
          rw [if_pos hb1.out] at g3
          go_roundg g
          case measure => omega
          case rel => exact ⟨_, _, _, rfl, by go_num, rfl, hlt.out, by omega, hlz.out, ⟨g2, g3⟩, rfl⟩
        · have hc1 : (x : Int) * 2 ≤ 255 := by omega
          have he := Lib.hid (show xt x = x * 2 from if_neg hc)
          clear hc
          go_wp2
          obtain ⟨g1, g2, g3⟩ := HG.out
          rw [if_pos hb1.out] at g3
          go_roundg g
          case measure => omega
          case rel => exact ⟨xt x, _, _, by rw [he.out]; go_num, by go_num, rfl, hlt.out, by omega, hlz.out, ⟨g2, g3⟩, rfl⟩
      · have hbit : (bits BinOp.and IntKind.i64 (↑y) 1 == 1) = false := by rw [hodd]; simp; omega
        have hb1 := Lib.hid hb1
        clear hodd hh h0
        by_cases hc : 255 < x * 2
        · have hc1 : (255 : Int) < (x : Int) * 2 := by omega
          have he := Lib.hid (show xt x = (x * 2) ^^^ 285 from if_pos hc)
          clear hc
          go_wp2
          obtain ⟨g1, g2, g3⟩ := HG.out
          rw [← he.out]
          rw [if_neg hb1.out] at g3
          go_roundg g
          case measure => omega
          case rel => exact ⟨_, _, _, rfl, by go_num, rfl, hlt.out, by omega, hz, ⟨g2, g3⟩, rfl⟩
        · have hc1 : (x : Int) * 2 ≤ 255 := by omega
          have he := Lib.hid (show xt x = x * 2 from if_neg hc)
          clear hc
          go_wp2
          obtain ⟨g1, g2, g3⟩ := HG.out
          rw [if_neg hb1.out] at g3
          go_roundg g
          case measure => omega
          case rel => exact ⟨xt x, _, _, by rw [he.out]; go_num, by go_num, rfl, hlt.out, by omega, hz, ⟨g2, g3⟩, rfl⟩
theorem mulOf_any (a b : Nat) (ha : a < 256) (hb : b < 256) (w : World) :
    Calls Try.prog 25 #[.int .i64 a, .int .i64 b] w fun e w' => e = .returned (.int .i64 (mul a b : Nat)) ∧ w = w' := by
  have h0 : Hid (rdF 7 14 (mpF a b 8 0 0) = mul a b) := ref_mul a b ha
  go_enter Try.func25, Try.ntmps25
  go_wp2
  go_loopg [5, 6] 8 (fun g p k wr => ∃ x y : Nat, p = .int .i64 x ∧ k = .int .i64 y ∧ x < 65536 ∧ y ≤ 8 ∧ Hid (g + y = 8 ∧ mpF a b g y x = mpF a b 8 0 0) ∧ wr = w)
  case atStart => exact ⟨0, 0, rfl, rfl, by omega, by omega, ⟨rfl, rfl⟩, rfl⟩
  case round =>
    obtain ⟨x, y, rfl, rfl, hx, hy, hh, rfl⟩ := hrel
    by_cases h8 : y < 8
    · have hnext : ∃ g, Hid (gk = g + 1 ∧ g + (y + 1) = 8 ∧ mpF a b g (y + 1) (if b / 2 ^ y % 2 = 1 then x ^^^ (a * 2 ^ y) else x) = mpF a b 8 0 0) := by
        obtain ⟨h1, h2⟩ := hh.out
        obtain ⟨g, rfl⟩ : ∃ g, gk = g + 1 := ⟨gk - 1, by omega⟩
        exact ⟨g, rfl, by omega, h2⟩
      obtain ⟨g, HG⟩ := hnext
      have hp : a * 2 ^ y < 2 ^ 16 := by
        have h1 : 2 ^ y ≤ 2 ^ 7 := Nat.pow_le_pow_right (by omega) (by omega)
        have h2 : a * 2 ^ y ≤ 255 * 2 ^ 7 := Nat.mul_le_mul (by omega) h1
        omega
      have hpi : (a : Int) * 2 ^ y = ((a * 2 ^ y : Nat) : Int) := by push_cast; rfl
      have hdi : (b : Int) / 2 ^ y = ((b / 2 ^ y : Nat) : Int) := by push_cast; rfl
      have hlx : Hid (x ^^^ (a * 2 ^ y) < 65536) := xor_lt (n := 16) hx hp
      have hd : b / 2 ^ y < 256 := Nat.lt_of_le_of_lt (Nat.div_le_self _ _) hb
      have hodd := i64_odd (b / 2 ^ y) (by omega)
      have hxor : bits BinOp.xor IntKind.i64 ↑x ((a * 2 ^ y : Nat) : Int) = ((x ^^^ (a * 2 ^ y) : Nat) : Int) := i64_xor_nat _ _ (by omega) (by omega)
      generalize hq : b / 2 ^ y = q at *
      generalize hP : a * 2 ^ y = P at *
      have hq := Lib.hid hq
      have hP := Lib.hid hP
      by_cases hb1 : q % 2 = 1
      · have hbit : (bits BinOp.and IntKind.i64 (↑q) 1 == 1) = true := by rw [hodd, hb1]; rfl
        have hb1 := Lib.hid hb1
        clear hodd hh h0
        go_wp2
        obtain ⟨g1, g2, g3⟩ := HG.out
        rw [if_pos hb1.out] at g3
        go_roundg g
        case measure => omega
        case rel => exact ⟨_, y + 1, rfl, by go_num, hlx.out, by omega, ⟨g2, g3⟩, rfl⟩
      · have hbit : (bits BinOp.and IntKind.i64 (↑q) 1 == 1) = false := by rw [hodd]; simp; omega
        have hb1 := Lib.hid hb1
        clear hodd hh h0
        go_wp2
        obtain ⟨g1, g2, g3⟩ := HG.out
        rw [if_neg hb1.out] at g3
        go_roundg g
        case measure => omega
        case rel => exact ⟨_, y + 1, rfl, by go_num, hx, by omega, ⟨g2, g3⟩, rfl⟩
    · have hx8 : Hid (x = mpF a b 8 0 0) := by
        obtain ⟨h1, h2⟩ := hh.out
        obtain rfl : gk = 0 := by omega
        exact h2
      have hx7 : Hid (rdF 7 14 x = mul a b) := by rw [hx8.out]; exact h0.out
      clear hh h0
      go_wp2
      go_loopg [5, 7] 7 (fun g p k w2 => ∃ x y : Nat, p = .int .i64 x ∧ k = .int .i64 y ∧ x < 65536 ∧ 7 ≤ y ∧ y ≤ 14 ∧ Hid (g + 7 = y ∧ rdF g y x = mul a b) ∧ w2 = wr)
      case atStart => exact ⟨x, 14, rfl, rfl, by omega, by omega, by omega, ⟨rfl, hx7.out⟩, rfl⟩
      case round =>
        clear hx8 hx7 hx
        obtain ⟨x, k, rfl, rfl, hx, hk1, hk2, hh, rfl⟩ := hrel
        by_cases hk : 8 ≤ k
        · have hnext : ∃ g, Hid (gk = g + 1 ∧ g + 7 = k - 1 ∧ rdF g (k - 1) (if x / 2 ^ k % 2 = 1 then x ^^^ (285 * 2 ^ (k - 8)) else x) = mul a b) := by
            obtain ⟨h1, h2⟩ := hh.out
            obtain ⟨g, rfl⟩ : ∃ g, gk = g + 1 := ⟨gk - 1, by omega⟩
            exact ⟨g, rfl, by omega, h2⟩
          obtain ⟨g, HG⟩ := hnext
          have hp : 285 * 2 ^ (k - 8) < 2 ^ 16 := by
            have h1 : 2 ^ (k - 8) ≤ 2 ^ 6 := Nat.pow_le_pow_right (by omega) (by omega)
            omega
          have hpi : (285 : Int) * 2 ^ (k - 8) = ((285 * 2 ^ (k - 8) : Nat) : Int) := by rw [Int.natCast_mul, Int.natCast_pow]; rfl
          have hdi : (x : Int) / 2 ^ k = ((x / 2 ^ k : Nat) : Int) := by rw [Int.natCast_ediv, Int.natCast_pow]; rfl
          have hlx : Hid (x ^^^ (285 * 2 ^ (k - 8)) < 65536) := xor_lt (n := 16) hx hp
          have hd : x / 2 ^ k < 65536 := Nat.lt_of_le_of_lt (Nat.div_le_self _ _) hx
          have hodd := i64_odd (x / 2 ^ k) (by omega)
          have hxor : bits BinOp.xor IntKind.i64 ↑x ((285 * 2 ^ (k - 8) : Nat) : Int) = ((x ^^^ (285 * 2 ^ (k - 8)) : Nat) : Int) := i64_xor_nat _ _ (by omega) (by omega)
          generalize hq : x / 2 ^ k = q at *
          generalize hP : 285 * 2 ^ (k - 8) = P at *
          have hq := Lib.hid hq
          have hP := Lib.hid hP
          by_cases hb1 : q % 2 = 1
          · have hbit : (bits BinOp.and IntKind.i64 (↑q) 1 == 1) = true := by rw [hodd, hb1]; rfl
            have hb1 := Lib.hid hb1
            clear hodd hh
            go_wp2
            obtain ⟨g1, g2, g3⟩ := HG.out
            rw [if_pos hb1.out] at g3
            go_roundg g
            case measure => omega
            case rel => exact ⟨_, k - 1, rfl, by go_num, hlx.out, by omega, by omega, ⟨g2, g3⟩, rfl⟩
          · have hbit : (bits BinOp.and IntKind.i64 (↑q) 1 == 1) = false := by rw [hodd]; simp; omega
            have hb1 := Lib.hid hb1
            clear hodd hh
            go_wp2
            obtain ⟨g1, g2, g3⟩ := HG.out
            rw [if_neg hb1.out] at g3
            go_roundg g
            case measure => omega
            case rel => exact ⟨_, k - 1, rfl, by go_num, hx, by omega, by omega, ⟨g2, g3⟩, rfl⟩
        · have hfin : Hid (x = mul a b) := by
            obtain ⟨h1, h2⟩ := hh.out
            obtain rfl : gk = 0 := by omega
            exact h2
          clear hh
          go_wp2
          go_ret
          exact ⟨ret1 (by rw [hfin.out]), rfl⟩
theorem power_any (a n : Nat) (ha : a < 256) (hn : n < 9223372036854775808) (w : World) :
    Calls Try.prog 77 #[.int .i64 a, .int .i64 n] w fun e w' => e = .returned (.int .i64 (pw a n : Nat)) ∧ w = w' := by
  have h0 : Hid (mul 1 (pw a n) = pw a n) := one_mul _ (pw_lt a ha n)
  go_enter Try.func77, Try.ntmps77
  go_wp2
  go_loopg [0, 1, 5] 63 (fun k a1 n1 o1 w2 => ∃ x y z : Nat, a1 = .int .i64 x ∧ n1 = .int .i64 y ∧ o1 = .int .i64 z ∧ x < 256 ∧ y ≤ n ∧ z < 256 ∧ Hid (y < 2 ^ k ∧ mul z (pw x y) = pw a n) ∧ w2 = w)
  case atStart => exact ⟨a, n, 1, rfl, rfl, rfl, ha, by omega, by omega, ⟨by simpa using hn, h0⟩, rfl⟩
  case round =>
    clear h0
    obtain ⟨x, y, z, rfl, rfl, rfl, hx, hy, hz, hh, rfl⟩ := hrel
    by_cases hy0 : y = 0
    · subst hy0
      have hz' : Hid (z = pw a n) := by
        have := hh.out.2
        rw [pw, mul_one] at this
        exact this
      clear hh
      go_wp2
      go_ret
      exact ⟨ret1 (by rw [hz'.out]), rfl⟩
    · have hnext : ∃ g, Hid (gk = g + 1 ∧ y / 2 < 2 ^ g ∧ mul (if y % 2 = 1 then mul z x else z) (pw (mul x x) (y / 2)) = pw a n) := by
        obtain ⟨h1, h2⟩ := hh.out
        cases gk with
        | zero => simp at h1; omega
        | succ g => exact ⟨g, rfl, by rw [Nat.pow_succ] at h1; omega, by rw [pw_half x z y hx hz]; exact h2⟩
      obtain ⟨g, HG⟩ := hnext
      have hp : 0 < y := by omega
      have hodd := i64_odd y (by omega)
      have hl1 := Lib.hid (mul_lt z x hz)
      have hl2 := Lib.hid (mul_lt x x hx)
      by_cases hb1 : y % 2 = 1
      · have hbit : (bits BinOp.and IntKind.i64 (↑y) 1 == 1) = true := by rw [hodd, hb1]; rfl
        have hb2 := Lib.hid hb1
        clear hodd hh hb1
        go_wp2_with fail
        refine (times_any z x hz hx _).mono ?_
        rintro e w' ⟨rfl, rfl⟩
        go_wp2_with fail
        refine (times_any x x hx hx _).mono ?_
        rintro e w' ⟨rfl, rfl⟩
        go_wp2
        obtain ⟨g1, g2, g3⟩ := HG.out
        rw [if_pos hb2.out] at g3
        go_roundg g
        case measure => omega
        case rel => exact ⟨_, y / 2, _, rfl, by go_num, rfl, hl2.out, by omega, hl1.out, ⟨g2, g3⟩, rfl⟩
      · have hbit : (bits BinOp.and IntKind.i64 (↑y) 1 == 1) = false := by rw [hodd]; simp; omega
        have hb2 := Lib.hid hb1
        clear hodd hh hb1
        go_wp2_with fail
        refine (times_any x x hx hx _).mono ?_
        rintro e w' ⟨rfl, rfl⟩
        go_wp2
        obtain ⟨g1, g2, g3⟩ := HG.out
        rw [if_neg hb2.out] at g3
        go_roundg g
        case measure => omega
        case rel => exact ⟨_, y / 2, _, rfl, by go_num, rfl, hl2.out, by omega, hz, ⟨g2, g3⟩, rfl⟩
theorem divOf_any (a b : Nat) (ha : a < 256) (hb : b < 256) (b0 : b ≠ 0) (w : World) :
    Calls Try.prog 52 #[.int .i64 a, .int .i64 b] w fun e w' => e = .returned (.int .i64 (divN a b : Nat)) ∧ w = w' := by
  have hu := Lib.hid (fun x hx => div_unique x a b hx ha hb b0)
  have hq := Lib.hid (divN_lt a b)
  go_enter Try.func52, Try.ntmps52
  go_wp2
  go_loop [5] (fun k => ∃ x : Nat, k = .int .i64 x ∧ x < 256 ∧ Hid (x ≤ divN a b)) (fun k => (256 - intOf k).toNat)
  case atStart => exact ⟨0, rfl, by omega, Nat.zero_le _⟩
  case round =>
    obtain ⟨x, rfl, hx, hle⟩ := hrel
    have hxi : (x : Int) < 256 := by omega
    by_cases hm : mul x b = a
    · have hf : Hid (x = divN a b) := (hu.out x hx).1 hm
      have heq : (((mul x b : Nat) : Int) == (a : Int)) = true := by rw [hm]; simp
      clear hm hle
      go_wp2_with fail
      refine (mulOf_any x b hx hb _).mono ?_
      rintro e w' ⟨rfl, rfl⟩
      go_wp2
      go_ret
      exact ⟨ret1 (by rw [hf.out]), rfl⟩
    · have heq : (((mul x b : Nat) : Int) == (a : Int)) = false := beq_eq_false_iff_ne.2 (by omega)
      have hn : Hid (x + 1 ≤ divN a b ∧ x + 1 < 256) := by
        have h1 : x ≠ divN a b := fun h => hm ((hu.out x hx).2 h)
        have h2 := hle.out
        have h3 := hq.out
        exact ⟨by omega, by omega⟩
      clear hm hle
      go_wp2_with fail
      refine (mulOf_any x b hx hb _).mono ?_
      rintro e w' ⟨rfl, rfl⟩
      go_wp2
      go_round
      case rel => exact ⟨x + 1, by go_num, hn.out.2, hn.out.1⟩
      case measure => simp [intOf]; omega
theorem expOf_any (n : Nat) (hn : n < 9223372036854775808) (w : World) :
    Calls Try.prog 26 #[.int .i64 n] w fun e w' => e = .returned (.int .i64 (expT (n % 255) : Nat)) ∧ w = w' := by
  have h0 : Hid (1 = expT 0) := exp_zero.symm
  have hm : n % 255 < 255 := Nat.mod_lt _ (by omega)
  go_enter Try.func26, Try.ntmps26
  go_wp2
  go_loop [3, 4] (fun x i => ∃ y k : Nat, x = .int .i64 y ∧ i = .int .i64 k ∧ k ≤ n % 255 ∧ y < 256 ∧ Hid (y = expT k)) (fun _ k => (256 - intOf k).toNat)
  case atStart => exact ⟨1, 0, rfl, rfl, by omega, by omega, h0⟩
  case round =>
    clear h0
    obtain ⟨y, k, rfl, rfl, hk, hy, hh⟩ := hrel
    by_cases hl : k < n % 255
    · have hs : Hid (mul y 2 = expT (k + 1)) := by
        have h1 := exp_facts k (by omega)
        rw [hh.out, mul_two _ h1.1, h1.2.2.2, Nat.mod_eq_of_lt (by omega : k + 1 < 255)]
        exact rfl
      have hlt := mul_lt y 2 hy
      go_wp2_with fail
      refine (mulOf_any y 2 hy (by omega) _).mono ?_
      rintro e w' ⟨rfl, rfl⟩
      go_wp2
      go_round
      case rel => exact ⟨_, k + 1, rfl, by go_num, by omega, hlt, hs⟩
      case measure => simp [intOf]; omega
    · have hf : Hid (y = expT (n % 255)) := by
        have : k = n % 255 := by omega
        rw [← this]; exact hh.out
      clear hh
      go_wp2
      go_ret
      exact ⟨ret1 (by rw [hf.out]), rfl⟩
/-- a list of two numbers, in a block -/
theorem bad2_any (b : Nat) (x y : Int) (w : World) (hx : w.cell? ⟨b, 0, none⟩ = some (.int .i64 x)) (hy : w.cell? ⟨b, 1, none⟩ = some (.int .i64 y))
    (x1 : -9223372036854775808 ≤ x) (x2 : x ≤ 9223372036854775807) (y1 : -9223372036854775808 ≤ y) (y2 : y ≤ 9223372036854775807) :
    Calls Try.prog 75 #[.slice (some ⟨b, 0, none⟩) 2 2] w fun e w' => e = .returned (.bool (!decide (isB x ∧ isB y))) ∧ w = w' := by
  have mx := mask_isB x x1 x2
  have my := mask_isB y y1 y2
  by_cases h : isB x
  · have hdx : (bits BinOp.andNot IntKind.i64 x 255 != 0) = false := by rw [mx, decide_eq_true h]; rfl
    by_cases h2 : isB y
    · have hdy : (bits BinOp.andNot IntKind.i64 y 255 != 0) = false := by rw [my, decide_eq_true h2]; rfl
      rw [decide_eq_true (And.intro h h2)]
      clear mx my h h2
      go_enter Try.func75, Try.ntmps75
      go_wp2
      go_loop [7] (fun k => ∃ i : Nat, k = .int .i64 i ∧ i ≤ 2) (fun k => (2 - intOf k).toNat)
      case atStart => exact ⟨0, rfl, by omega⟩
      case round =>
        obtain ⟨i, rfl, hi⟩ := hrel
        obtain rfl | rfl | rfl : i = 0 ∨ i = 1 ∨ i = 2 := by omega
        · go_wp2
          go_round
          case rel => exact ⟨1, rfl, by omega⟩
          case measure => simp [intOf]
        · go_wp2
          go_round
          case rel => exact ⟨2, rfl, by omega⟩
          case measure => simp [intOf]
        · go_wp2
          go_ret
          exact ⟨rfl, rfl⟩
    · have hdy : (bits BinOp.andNot IntKind.i64 y 255 != 0) = true := by rw [my, decide_eq_false h2]; rfl
      rw [decide_eq_false (fun hh : isB x ∧ isB y => h2 hh.2)]
      clear mx my h h2
      go_enter Try.func75, Try.ntmps75
      go_wp2
      go_loop [7] (fun k => ∃ i : Nat, k = .int .i64 i ∧ i ≤ 1) (fun k => (2 - intOf k).toNat)
      case atStart => exact ⟨0, rfl, by omega⟩
      case round =>
        obtain ⟨i, rfl, hi⟩ := hrel
        obtain rfl | rfl : i = 0 ∨ i = 1 := by omega
        · go_wp2
          go_round
          case rel => exact ⟨1, rfl, by omega⟩
          case measure => simp [intOf]
        · go_wp2
          go_ret
          exact ⟨rfl, rfl⟩
  · have hdx : (bits BinOp.andNot IntKind.i64 x 255 != 0) = true := by rw [mx, decide_eq_false h]; rfl
    rw [decide_eq_false (fun hh : isB x ∧ isB y => h hh.1)]
    clear mx my h
    go_enter Try.func75, Try.ntmps75
    go_wp2
    go_loop [7] (fun k => ∃ i : Nat, k = .int .i64 i ∧ i ≤ 0) (fun k => (2 - intOf k).toNat)
    case atStart => exact ⟨0, rfl, by omega⟩
    case round =>
      obtain ⟨i, rfl, hi⟩ := hrel
      obtain rfl : i = 0 := by omega
      go_wp2
      go_ret
      exact ⟨rfl, rfl⟩
theorem bad1_any (b : Nat) (x : Int) (w : World) (hx : w.cell? ⟨b, 0, none⟩ = some (.int .i64 x)) (x1 : -9223372036854775808 ≤ x) (x2 : x ≤ 9223372036854775807) :
    Calls Try.prog 75 #[.slice (some ⟨b, 0, none⟩) 1 1] w fun e w' => e = .returned (.bool (!decide (isB x))) ∧ w = w' := by
  have mx := mask_isB x x1 x2
  by_cases h : isB x
  · have hdx : (bits BinOp.andNot IntKind.i64 x 255 != 0) = false := by rw [mx, decide_eq_true h]; rfl
    rw [decide_eq_true h]
    clear mx h
    go_enter Try.func75, Try.ntmps75
    go_wp2
    go_loop [7] (fun k => ∃ i : Nat, k = .int .i64 i ∧ i ≤ 1) (fun k => (2 - intOf k).toNat)
    case atStart => exact ⟨0, rfl, by omega⟩
    case round =>
      obtain ⟨i, rfl, hi⟩ := hrel
      obtain rfl | rfl : i = 0 ∨ i = 1 := by omega
      · go_wp2
        go_round
        case rel => exact ⟨1, rfl, by omega⟩
        case measure => simp [intOf]
      · go_wp2
        go_ret
        exact ⟨rfl, rfl⟩
  · have hdx : (bits BinOp.andNot IntKind.i64 x 255 != 0) = true := by rw [mx, decide_eq_false h]; rfl
    rw [decide_eq_false h]
    clear mx h
    go_enter Try.func75, Try.ntmps75
    go_wp2
    go_loop [7] (fun k => ∃ i : Nat, k = .int .i64 i ∧ i ≤ 0) (fun k => (2 - intOf k).toNat)
    case atStart => exact ⟨0, rfl, by omega⟩
    case round =>
      obtain ⟨i, rfl, hi⟩ := hrel
      obtain rfl : i = 0 := by omega
      go_wp2
      go_ret
      exact ⟨rfl, rfl⟩

/-! ### the exported functions -/
def okAdd (a b : Int) : Prop := isB a ∧ isB b
def addV (a b : Int) : Int := if isB a ∧ isB b then (a.toNat ^^^ b.toNat : Nat) else 0
def mulV (a b : Int) : Int := if isB a ∧ isB b then (mul a.toNat b.toNat : Nat) else 0
def mulE (a b : Int) : Int := if isB a ∧ isB b then 0 else 2
def divV (a b : Int) : Int := if isB a ∧ isB b then (if b = 0 then 0 else (divN a.toNat b.toNat : Nat)) else 0
def divE (a b : Int) : Int := if isB a ∧ isB b then (if b = 0 then 10 else 0) else 2
theorem isB_nat {a : Int} (h : isB a) : ∃ n : Nat, a = n ∧ n < 256 := ⟨a.toNat, by unfold isB at h; omega, by unfold isB at h; omega⟩
theorem Mul_any (a b : Int) (w : World) (x1 : -9223372036854775808 ≤ a) (x2 : a ≤ 9223372036854775807) (y1 : -9223372036854775808 ≤ b) (y2 : b ≤ 9223372036854775807) :
    Calls Try.prog 70 #[.int .i64 a, .int .i64 b] w fun e w' => e = .returned (.tuple #[.int .i64 (mulV a b), .int .i64 (mulE a b)]) ∧ New w w' := by
  by_cases h : isB a ∧ isB b
  · have hd : decide (isB a ∧ isB b) = true := decide_eq_true h
    have H := Lib.hid h
    obtain ⟨n, rfl, hn⟩ := isB_nat h.1
    obtain ⟨m, rfl, hm⟩ := isB_nat h.2
    clear h
    go_enter Try.func70, Try.ntmps70
    go_wp2_with fail
    refine (bad2_any _ _ _ _ (by simp) (by simp) x1 x2 y1 y2).mono ?_
    rintro e w' ⟨rfl, rfl⟩
    go_wp2_with fail
    refine (times_any n m hn hm _).mono ?_
    rintro e w' ⟨rfl, rfl⟩
    go_wp2
    go_ret2
    exact ⟨ret2 (if_pos H.out).symm (if_pos H.out).symm, (New.refl _).alloc _⟩
  · have hd : decide (isB a ∧ isB b) = false := decide_eq_false h
    have H := Lib.hid h
    clear h
    go_enter Try.func70, Try.ntmps70
    go_wp2_with fail
    refine (bad2_any _ a b _ (by simp) (by simp) x1 x2 y1 y2).mono ?_
    rintro e w' ⟨rfl, rfl⟩
    go_wp2
    go_ret2
    exact ⟨ret2 (if_neg H.out).symm (if_neg H.out).symm, (New.refl _).alloc _⟩
theorem Div_any (a b : Int) (w : World) (x1 : -9223372036854775808 ≤ a) (x2 : a ≤ 9223372036854775807) (y1 : -9223372036854775808 ≤ b) (y2 : b ≤ 9223372036854775807) :
    Calls Try.prog 86 #[.int .i64 a, .int .i64 b] w fun e w' => e = .returned (.tuple #[.int .i64 (divV a b), .int .i64 (divE a b)]) ∧ New w w' := by
  by_cases h : isB a ∧ isB b
  · have hd : decide (isB a ∧ isB b) = true := decide_eq_true h
    have H := Lib.hid h
    by_cases h0 : b = 0
    · subst h0
      have V : Hid (divV a 0 = 0 ∧ divE a 0 = 10) := ⟨by unfold divV; rw [if_pos h]; rfl, by unfold divE; rw [if_pos h]; rfl⟩
      clear h
      go_enter Try.func86, Try.ntmps86
      go_wp2_with fail
      refine (bad2_any _ _ _ _ (by simp) (by simp) x1 x2 y1 y2).mono ?_
      rintro e w' ⟨rfl, rfl⟩
      go_wp2
      go_ret2
      exact ⟨ret2 V.out.1.symm V.out.2.symm, (New.refl _).alloc _⟩
    · obtain ⟨n, rfl, hn⟩ := isB_nat h.1
      obtain ⟨m, rfl, hm⟩ := isB_nat h.2
      have h0 : m ≠ 0 := by omega
      clear h
      have hb0 : ((m : Int) == 0) = false := by simpa using h0
      have V : Hid (divV n m = (divN n m : Nat) ∧ divE n m = 0) := by
        have e0 : ((m : Int)) ≠ 0 := by omega
        exact ⟨by unfold divV; rw [if_pos H.out, if_neg e0]; rfl, by unfold divE; rw [if_pos H.out, if_neg e0]⟩
      have hdp := Lib.hid (div_pow n m hn hm h0)
      have hpl := pw_lt m hm 254
      have hm0 := Lib.hid h0
      clear h0
      go_enter Try.func86, Try.ntmps86
      go_wp2_with fail
      refine (bad2_any _ _ _ _ (by simp) (by simp) x1 x2 y1 y2).mono ?_
      rintro e w' ⟨rfl, rfl⟩
      go_wp2_with fail
      refine (power_any m 254 hm (by omega) _).mono ?_
      rintro e w' ⟨rfl, rfl⟩
      go_wp2_with fail
      refine (times_any n (pw m 254) hn hpl _).mono ?_
      rintro e w' ⟨rfl, rfl⟩
      go_wp2
      go_ret2
      exact ⟨ret2 (by rw [hdp.out]; exact V.out.1.symm) V.out.2.symm, (New.refl _).alloc _⟩
  · have hd : decide (isB a ∧ isB b) = false := decide_eq_false h
    have H := Lib.hid h
    clear h
    go_enter Try.func86, Try.ntmps86
    go_wp2_with fail
    refine (bad2_any _ a b _ (by simp) (by simp) x1 x2 y1 y2).mono ?_
    rintro e w' ⟨rfl, rfl⟩
    go_wp2
    go_ret2
    exact ⟨ret2 (if_neg H.out).symm (if_neg H.out).symm, (New.refl _).alloc _⟩
theorem Inv_any (a : Int) (w : World) (x1 : -9223372036854775808 ≤ a) (x2 : a ≤ 9223372036854775807) :
    Calls Try.prog 81 #[.int .i64 a] w fun e w' => e = .returned (.tuple #[.int .i64 (divV 1 a), .int .i64 (divE 1 a)]) ∧ New w w' := by
  go_enter Try.func81, Try.ntmps81
  go_wp2_with fail
  refine (Div_any 1 a _ (by omega) (by omega) x1 x2).mono ?_
  rintro e w' ⟨rfl, hb⟩
  go_wp2
  go_ret2
  exact ⟨rfl, hb⟩
def powP (a n : Int) : Prop := isB a ∧ 0 ≤ n
instance (a n : Int) : Decidable (powP a n) := by unfold powP; infer_instance
def powV (a n : Int) : Int := if powP a n then (pw a.toNat n.toNat : Nat) else 0
def powE (a n : Int) : Int := if powP a n then 0 else 2
theorem Pow_any (a b : Int) (w : World) (x1 : -9223372036854775808 ≤ a) (x2 : a ≤ 9223372036854775807) (y1 : -9223372036854775808 ≤ b) (y2 : b ≤ 9223372036854775807) :
    Calls Try.prog 71 #[.int .i64 a, .int .i64 b] w fun e w' => e = .returned (.tuple #[.int .i64 (powV a b), .int .i64 (powE a b)]) ∧ New w w' := by
  by_cases ha : isB a
  · have hd : decide (isB a) = true := decide_eq_true ha
    by_cases hb : 0 ≤ b
    · have H : Hid (powP a b) := ⟨ha, hb⟩
      obtain ⟨n, rfl, hn⟩ := isB_nat ha
      obtain ⟨m, rfl⟩ := Int.eq_ofNat_of_zero_le hb
      clear ha hb
      go_enter Try.func71, Try.ntmps71
      go_wp2_with fail
      refine (bad1_any _ _ _ (by simp) x1 x2).mono ?_
      rintro e w' ⟨rfl, rfl⟩
      go_wp2_with fail
      refine (power_any n m hn (by omega) _).mono ?_
      rintro e w' ⟨rfl, rfl⟩
      go_wp2
      go_ret2
      exact ⟨ret2 (if_pos H.out).symm (if_pos H.out).symm, (New.refl _).alloc _⟩
    · have H : Hid (¬ powP a b) := fun h => hb h.2
      clear ha
      go_enter Try.func71, Try.ntmps71
      go_wp2_with fail
      refine (bad1_any _ _ _ (by simp) x1 x2).mono ?_
      rintro e w' ⟨rfl, rfl⟩
      go_wp2
      go_ret2
      exact ⟨ret2 (if_neg H.out).symm (if_neg H.out).symm, (New.refl _).alloc _⟩
  · have hd : decide (isB a) = false := decide_eq_false ha
    have H : Hid (¬ powP a b) := fun h => ha h.1
    clear ha
    go_enter Try.func71, Try.ntmps71
    go_wp2_with fail
    refine (bad1_any _ _ _ (by simp) x1 x2).mono ?_
    rintro e w' ⟨rfl, rfl⟩
    go_wp2
    go_ret2
    exact ⟨ret2 (if_neg H.out).symm (if_neg H.out).symm, (New.refl _).alloc _⟩
theorem Exp_any (n : Int) (w : World) (x1 : -9223372036854775808 ≤ n) (x2 : n ≤ 9223372036854775807) :
    Calls Try.prog 62 #[.int .i64 n] w fun e w' => e = .returned (.tuple #[.int .i64 (powV 2 n), .int .i64 (powE 2 n)]) ∧ New w w' := by
  go_enter Try.func62, Try.ntmps62
  go_wp2_with fail
  refine (Pow_any 2 n _ (by omega) (by omega) x1 x2).mono ?_
  rintro e w' ⟨rfl, hb⟩
  go_wp2
  go_ret2
  exact ⟨rfl, hb⟩
def logV (a : Int) : Int := if isB a then (if a = 0 then 0 else (logT a.toNat : Nat)) else 0
def logE (a : Int) : Int := if isB a then (if a = 0 then 10 else 0) else 2
end Go.Proofs.Ytjmjnodaohbpfaa.gf
