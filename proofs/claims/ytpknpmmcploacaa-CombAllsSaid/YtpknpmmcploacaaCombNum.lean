/-
  Contract of comb.Number.
-/
import Derived.Test.YtpknpmmcploacaaCombPlain
import Derived.BigRegion
namespace Go.Proofs.Ytpknpmmcploacaa.comb
open Go.ChangeShapes Go.WideShapes Go.ChangeAt Go.RowKit Go.Proofs.Ytpknpmmcploacaa.kit Go.Deep
set_option linter.unusedVariables false

def outV : Option Nat → Nat
  | some r => r
  | none => 0
def outE : Option Nat → Int
  | some _ => 0
  | none => 4
theorem choose_int (x y : Int) (a k : Nat) (w : World) (hx : x = a) (hy : y = k) (ha : a ≤ 12) (hk : k ≤ 12) :
    Calls Try.prog 49 #[.int .i64 x, .int .i64 y] w fun e w' => e = .returned (.int .i64 (ch a k : Nat)) ∧ w = w' := by
  subst hx hy; exact choose_ok a k w ha hk
theorem Number_bad (n : Int) (v : Value) (w : World) (h : n < 0 ∨ 12 < n) :
    Calls Try.prog 32 #[.int .i64 n, v] w fun e w' => e = .returned (.tuple #[.int .i64 0, .int .i64 2]) ∧ w = w' := by
  go_enter Try.func32, Try.ntmps32
  go_wp2
  all_goals go_ret2
  all_goals exact ⟨rfl, rfl⟩
theorem CombNumber_bad (n : Int) (v : Value) (w : World) (h : n < 0 ∨ 12 < n) :
    Calls Try.prog 33 #[.int .i64 n, v] w fun e w' => e = .returned (.tuple #[.int .i64 0, .int .i64 2]) ∧ w = w' := by
  go_enter Try.func33, Try.ntmps33
  go_wp2
  all_goals go_ret2
  all_goals exact ⟨rfl, rfl⟩
set_option maxHeartbeats 1000000 in
theorem Number_ok (n : Nat) (A : Option Addr) (m c : Nat) (Z : Nat → Int) (w : World) (hn : n ≤ 12) (hZ : RdI .i64 w A m Z) :
    Calls Try.prog 32 #[.int .i64 n, .slice A m c] w fun e w' => e = .returned (.tuple #[.int .i64 (outV (numF n 0 (lst Z m 0)) : Nat), .int .i64 (outE (numF n 0 (lst Z m 0)))]) ∧ w = w' := by
  have hm := hZ.1
  unfold maxLen at hm
  have hZ1 := Lib.hid hZ
  clear hZ
  obtain ⟨T, hT⟩ : ∃ T, Hid (T = numF n 0 (lst Z m 0)) := ⟨_, (rfl : _ = _)⟩
  rw [← hT.out]
  obtain ⟨rv, hrv⟩ : ∃ rv, Hid (rv = outV T) := ⟨_, (rfl : _ = _)⟩
  obtain ⟨re, hre⟩ : ∃ re, Hid (re = outE T) := ⟨_, (rfl : _ = _)⟩
  rw [← hrv.out, ← hre.out]
  go_enter Try.func32, Try.ntmps32
  go_wp2
  go_loopw [19, 6, 7] (fun c o l wr => ∃ i f s : Nat, c = .int .i64 i ∧ o = .int .i64 s ∧ l = .int .i64 ((f : Int) - 1) ∧ i ≤ m ∧ f ≤ n ∧ s ≤ 1000 * f ∧ Hid (T = (numF (n - f) f (lst Z m i)).map (fun r => s + r)) ∧ w = wr) (fun c _ _ _ => m - (intOf c).toNat)
  case atStart => exact ⟨0, 0, 0, rfl, rfl, rfl, by omega, by omega, by omega, by rw [hT.out]; cases numF n 0 (lst Z m 0) <;> simp <;> exact Lib.hid trivial, rfl⟩
  case round =>
    obtain ⟨i, f, s, rfl, rfl, rfl, hi, hf, hs, hinv, rfl⟩ := hrel
    by_cases hlt : i < m
    · obtain ⟨b, off, rfl, hb, hcs⟩ := hZ1.out.2 (by omega)
      have c0 := hcs i hlt
      clear hcs
      have hcons := Lib.hid (lst_cons Z m i hlt)
      obtain ⟨x, hx⟩ : ∃ x, Hid (x = Z i) := ⟨_, (rfl : _ = _)⟩
      rw [← hx.out] at c0
      by_cases hbad : x < (f : Int) ∨ (n : Int) ≤ x
      · have hnone : T = none := by
          rw [hinv.out, hcons.out, ← hx.out]
          rcases hbad with h | h
          · rw [numF_low _ _ _ _ h]; rfl
          · rw [numF_high _ _ _ _ (by omega)]; rfl
        have h1 : rv = 0 := by rw [hrv.out, hnone]; rfl
        have h2 : re = 4 := by rw [hre.out, hnone]; rfl
        subst h1 h2
        clear hnone
        go_wp2
        all_goals go_ret2
        all_goals exact ⟨by first | rfl | simp, rfl⟩
      · obtain ⟨e, he⟩ : ∃ e : Nat, x = (f : Int) + (e : Int) := ⟨(x - f).toNat, by omega⟩
        obtain ⟨d, hd⟩ : ∃ d, n = f + e + d + 1 := ⟨n - (f + e + 1), by omega⟩
        obtain ⟨kk, hkk⟩ : ∃ kk, m = i + kk + 1 := ⟨m - i - 1, by omega⟩
        have hPl : Hid ((lst Z m (i + 1)).length = kk) := by rw [lst_len, hkk]; show _ = _; omega
        obtain ⟨P, hP⟩ : ∃ P, Hid (P = lst Z m (i + 1)) := ⟨_, (rfl : _ = _)⟩
        rw [← hP.out] at hPl
        have hinv1 : Hid (T = (numF (n - f) f (x :: P)).map (fun r => s + r)) := by rw [hinv.out, hcons.out, ← hx.out, ← hP.out]; exact (rfl : _ = _)
        have hb1 : ¬ x ≤ (f : Int) - 1 := by omega
        have hb2 : x < (n : Int) := by omega
        have hbad' := hbad
        clear hbad hbad' hinv hcons hx
        have hd1 := Lib.hid hd
        have hkk1 := Lib.hid hkk
        have he1 := Lib.hid he
        clear hd hkk
        rw [he] at c0 hb1 hb2
        go_wp2
        go_loopw [10, 6] (fun y o wr => ∃ t s' : Nat, y = .int .i64 ((f : Int) + (t : Int)) ∧ o = .int .i64 s' ∧ t ≤ e ∧ s' ≤ 1000 * (f + t) ∧ Hid (T = (numF (n - (f + t)) (f + t) (x :: P)).map (fun r => s' + r)) ∧ w = wr) (fun y _ _ => 20 - (intOf y).toNat)
        case atStart => exact ⟨0, s, by simp, rfl, by omega, by omega, hinv1, rfl⟩
        case round =>
          obtain ⟨t, s', rfl, rfl, ht, hs', hin1, rfl⟩ := hrel
          have hd := hd1.out
          have hkk := hkk1.out
          by_cases hte : t < e
          · by_cases hg : kk ≤ e - t + d
            · have hg1 : (m : Int) - (i : Int) - 1 ≤ (n : Int) - ((f : Int) + (t : Int)) - 1 := by omega
              have hq : ch (e - t + d) kk ≤ 924 := ch_le (by omega) (by omega)
              obtain ⟨q, hqq⟩ : ∃ q, Hid (q = ch (e - t + d) kk) := ⟨_, (rfl : _ = _)⟩
              rw [← hqq.out] at hq
              have hch := Lib.hid (choose_int ((n : Int) - ((f : Int) + (t : Int)) - 1) ((m : Int) - (i : Int) - 1) (e - t + d) kk w (by omega) (by omega) (by omega) (by omega))
              rw [← hqq.out] at hch
              clear hkk hd
              go_wp2_with fail
              refine hch.out.mono ?_
              rintro e1 w1 ⟨rfl, rfl⟩
              go_wp2
              go_roundw
              case rel =>
                have hd := hd1.out
                have hstep : numF (n - (f + t)) (f + t) (x :: P) = (numF (n - (f + (t + 1))) (f + (t + 1)) (x :: P)).map (fun r => q + r) := by
                  rw [show n - (f + t) = (e - t + d) + 1 by omega, show n - (f + (t + 1)) = e - t + d by omega, numF_step _ _ _ _ (by rw [he1.out]; push_cast; omega), hPl.out, ← hqq.out]
                  rfl
                refine ⟨t + 1, s' + q, intv (by push_cast; omega), intv (by push_cast; omega), by omega, by omega, ?_, trivial⟩
                rw [hin1.out, hstep, Option.map_map]
                cases numF (n - (f + (t + 1))) (f + (t + 1)) (x :: P) with
                | none => exact (rfl : _ = _)
                | some r => exact congrArg some (by show s' + (q + r) = s' + q + r; omega)
              case measure => simp [intOf]; omega
            · have hg1 : ¬ (m : Int) - (i : Int) - 1 ≤ (n : Int) - ((f : Int) + (t : Int)) - 1 := by omega
              have hfin : Hid (T = (numF (n - (f + e + 1)) (f + e + 1) (lst Z m (i + 1))).map (fun r => s' + r)) := by
                rw [hin1.out, ← hP.out]
                have h1 : numF (n - (f + t)) (f + t) (x :: P) = numF (n - (f + e + 1)) (f + e + 1) P := by
                  have h2 := numF_skip (e - t) d (f + t) P (by rw [hPl.out]; omega)
                  rw [show f + t + (e - t) = f + e by omega] at h2
                  rw [show n - (f + t) = e - t + d + 1 by omega, he1.out, show ((f : Int) + (e : Int)) = ((f + e : Nat) : Int) by push_cast; rfl, h2, numF_here, show n - (f + e + 1) = d by omega]
                rw [h1]; exact (rfl : _ = _)
              clear hkk hd
              go_wp2
              go_roundw
              case rel => exact ⟨i + 1, f + e + 1, s', by go_num, rfl, intv (by push_cast; omega), by omega, by have := hd1.out; omega, by omega, hfin.out, trivial⟩
              case measure => simp [intOf]; omega
          · have hte1 : t = e := by omega
            subst hte1
            have hfin : Hid (T = (numF (n - (f + t + 1)) (f + t + 1) (lst Z m (i + 1))).map (fun r => s' + r)) := by
              rw [hin1.out, ← hP.out]
              have h1 : numF (n - (f + t)) (f + t) (x :: P) = numF (n - (f + t + 1)) (f + t + 1) P := by
                rw [show n - (f + t) = d + 1 by omega, he1.out, show ((f : Int) + (t : Int)) = ((f + t : Nat) : Int) by push_cast; rfl, numF_here, show n - (f + t + 1) = d by omega]
              rw [h1]; exact (rfl : _ = _)
            clear hkk hd
            go_wp2
            go_roundw
            case rel => exact ⟨i + 1, f + t + 1, s', by go_num, rfl, intv (by push_cast; omega), by omega, by have := hd1.out; omega, by omega, hfin.out, trivial⟩
            case measure => simp [intOf]; omega
    · have hin : i = m := by omega
      subst hin
      have hsome : T = some s := by rw [hinv.out, lst_end]; cases n - f <;> rfl
      have h1 : rv = s := by rw [hrv.out, hsome]; rfl
      have h2 : re = 0 := by rw [hre.out, hsome]; rfl
      subst h1 h2
      clear hsome
      go_wp2
      go_ret2
      exact ⟨rfl, rfl⟩
end Go.Proofs.Ytpknpmmcploacaa.comb
