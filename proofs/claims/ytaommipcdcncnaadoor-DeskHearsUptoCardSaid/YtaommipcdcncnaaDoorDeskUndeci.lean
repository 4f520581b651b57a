/-
  Contract of the reference's undeci.
-/
import Derived.Test.YtaommipcdcncnaaDoorDeskNum
import Derived.Test.YtaommipcdcncnaaDoorDeskTell
import Derived.Test.YtaommipcdcncnaaDoorDeskHexa
import Derived.Lib.CutLaws
namespace Go.Proofs.YtaommipcdcncnaaDoor.desk
open Go.ChangeShapes Go.WideShapes Go.ChangeAt Go.RowKit Go.Proofs.YtaommipcdcncnaaDoor.kit Go.Deep
set_option linter.unusedVariables false
set_option maxRecDepth 100000
theorem str_len (s : Tx) (w : World) (ty : TypeId) : (Builtin.len_ #[9] ty #[encStr s]).run Tryd.prog w = .ok (.int .i64 (s.length : Nat)) w := by
  simp [Builtin.len_, run_underlying Tryd.underlying9, goInt, Result.andThen]
  rfl
theorem str_ix (s : Tx) (w : World) (i : Nat) (h : i < s.length) : (Instr.index 9 (encStr s) (.int .i64 (i : Nat))).run Tryd.prog w = .ok (.int .u8 ((s.getD i 0).toNat : Nat)) w := by
  have h1 := run_index_string (P := Tryd.prog) (w := w) 9 ⟨s.toArray⟩ .i64 (i : Nat) Tryd.underlying9
  rw [h1, dif_pos ⟨by omega, by show (i : Int) < (s.length : Nat); omega⟩]
  have h3 : s.getD i 0 = s[i] := by simp [List.getD, h]
  rw [h3]
  rfl
theorem str_tail (c : UInt8) (r : Tx) (w : World) : (Instr.slice 9 (encStr (c :: r)) (some (.int .i64 1)) none none).run Tryd.prog w = .ok (encStr r) w := by
  have h := run_slice_string_l (P := Tryd.prog) w 9 ⟨(c :: r).toArray⟩ Tryd.underlying9 .i64 1 (by decide) (by show (1 : Int) ≤ ((c :: r).toArray.size : Nat); simp; omega)
  refine h.trans ?_
  congr 1
  show Value.string _ = Value.string _
  congr 1
  apply ByteArray.ext
  apply Array.toList_inj.1
  rw [show Int.toNat 1 = 1 from rfl, Lib.extract_to_end]
  rfl
theorem u64_in {z : Int} (h0 : 0 ≤ z) (h1 : z < 18446744073709551616) : IntKind.u64.wrap z = z := by
  unfold IntKind.wrap
  simp [IntKind.bits, IntKind.signed]
  omega
theorem take_val (l : Tx) (i : Nat) (h : i < l.length) : valD (l.take (i + 1)) = valD (l.take i) * 10 + ((l.getD i 0).toNat - 48) := by
  rw [List.take_add_one, List.getElem?_eq_getElem h, Option.toList_some, valD_more]
  simp [List.getD, h]
theorem val_bound (l : Tx) (i : Nat) (hi : i ≤ 18) (hl : i ≤ l.length) (ha : (l.take i).all digB = true) : valD (l.take i) < 1000000000000000000 := by
  have h := valD_lt i (l.take i) (by rw [List.length_take]; omega) ha
  have h2 : 10 ^ i ≤ 10 ^ 18 := Nat.pow_le_pow_right (by decide) hi
  have h3 : (10 : Nat) ^ 18 = 1000000000000000000 := by decide
  omega
def NumR (s : Tx) (w : World) (e : Ending) (w' : World) : Prop := ∃ n b, e = .returned (.tuple #[.int .i64 n, .bool b]) ∧ NumP s n b ∧ New w w'
theorem NumR.of {s : Tx} {w w' : World} {n : Int} {b : Bool} (h : NumP s n b) (hn : New w w') : NumR s w (.returned (.tuple #[.int .i64 n, .bool b])) w' := ⟨n, b, rfl, h, hn⟩
theorem undeci_nil (w : World) :
    Calls Tryd.prog 36 #[encStr []] w (NumR [] w) := by
  have hP : Hid (NumP [] 0 false) := NumP.len (.inl rfl)
  go_enter Tryd.func36, Tryd.ntmps36
  go_wp2
  exact bodyPost_ret (v := .tuple #[.int .i64 0, .bool false]) (by simp [results, Tryd.results36, go_sem]) rfl (NumR.of hP.out (New.refl _))
set_option maxHeartbeats 2000000 in
theorem undeci_minus (r S : Tx) (hS : S = 45 :: r) (hs : S.length ≤ 1048576) (w : World) :
    Calls Tryd.prog 36 #[encStr S] w (NumR S w) := by
  replace hS := Lib.hid hS
  obtain ⟨v, hv⟩ : ∃ v, Hid (v = encStr S) := ⟨_, rfl⟩
  obtain ⟨n, hn⟩ : ∃ n, Hid (n = S.length) := ⟨_, rfl⟩
  rw [← hv.out]
  have hlen : ∀ ty, (Builtin.len_ #[9] ty #[v]).run Tryd.prog w = .ok (.int .i64 (n : Nat)) w := fun ty => by rw [hv.out, hn.out]; exact str_len _ w ty
  obtain ⟨dv, hdv⟩ : ∃ dv, Hid (dv = encStr r) := ⟨_, rfl⟩
  obtain ⟨m, hm⟩ : ∃ m, Hid (m = r.length) := ⟨_, rfl⟩
  have hdlen : ∀ ty, (Builtin.len_ #[9] ty #[dv]).run Tryd.prog w = .ok (.int .i64 (m : Nat)) w := fun ty => by rw [hdv.out, hm.out]; exact str_len _ w ty
  have hx0 : (Instr.index 9 v (.int .i64 0)).run Tryd.prog w = .ok (.int .u8 45) w := by rw [hv.out, hS.out]; exact str_ix (45 :: r) w 0 (by simp)
  have hsl : (Instr.slice 9 v (some (.int .i64 1)) none none).run Tryd.prog w = .ok dv w := by rw [hv.out, hdv.out, hS.out]; exact str_tail 45 r w
  have hT : Hid (tailD S = r) := by show _ = _; rw [hS.out]; rfl
  have hH : Hid (S.head? = some 45) := by show _ = _; rw [hS.out]; rfl
  have hnp : (0 : Int) < (n : Int) := by rw [hn.out, hS.out]; exact Int.natCast_pos.2 (Nat.succ_pos _)
  have hix : Hid (∀ i, i < m → (Instr.index 9 dv (.int .i64 (i : Nat))).run Tryd.prog w = .ok (.int .u8 ((r.getD i 0).toNat : Nat)) w) := fun i hi => by rw [hdv.out]; exact str_ix r w i (by rw [← hm.out]; exact hi)
  by_cases h0 : m = 0
  · have hP : Hid (NumP S 0 false) := NumP.len (.inl (by rw [hT.out, ← hm.out]; exact h0))
    subst h0
    go_enter Tryd.func36, Tryd.ntmps36
    go_wp2
    exact bodyPost_ret (v := .tuple #[.int .i64 0, .bool false]) (by simp [results, Tryd.results36, go_sem]) rfl (NumR.of hP.out (New.refl _))
  have h0b : ((m : Int) == 0) = false := by simp; omega
  by_cases h19 : 19 < m
  · have hP : Hid (NumP S 0 false) := NumP.len (.inr (by rw [hT.out, ← hm.out]; exact h19))
    have h19i : (19 : Int) < (m : Int) := by omega
    go_enter Tryd.func36, Tryd.ntmps36
    go_wp2
    exact bodyPost_ret (v := .tuple #[.int .i64 0, .bool false]) (by simp [results, Tryd.results36, go_sem]) rfl (NumR.of hP.out (New.refl _))
  have h19i : ¬ (19 : Int) < (m : Int) := by omega
  go_enter Tryd.func36, Tryd.ntmps36
  go_upto_region 9 with fail
  go_loopw [7, 6] (fun x q wr => ∃ i : Nat, x = .int .i64 (i : Nat) ∧ q = .int .u64 (valD (r.take i) : Nat) ∧ i ≤ m ∧ Hid ((r.take i).all digB = true) ∧ w = wr) (fun x _ _ => m - (intOf x).toNat)
  case atStart => exact ⟨0, rfl, rfl, Nat.zero_le _, Lib.hid rfl, rfl⟩
  case round =>
    obtain ⟨i, rfl, rfl, hi, hok, rfl⟩ := hrel
    by_cases hlt : i < m
    · have hil : (i : Int) < (m : Int) := by omega
      have hxi := hix.out i hlt
      have hid : i < r.length := by rw [← hm.out]; exact hlt
      have hmo := Lib.hid (all_more digB r i hid)
      have htv := Lib.hid (take_val r i hid)
      have hVb := val_bound r i (by omega) (by omega) hok.out
      clear hid
      obtain ⟨V, hV⟩ : ∃ V, Hid (V = valD (r.take i)) := ⟨_, rfl⟩
      rw [← hV.out] at htv hVb ⊢
      obtain ⟨b, hb⟩ : ∃ b, Hid (b = r.getD i 0) := ⟨_, rfl⟩
      rw [← hb.out] at hxi hmo htv
      obtain ⟨k, hk⟩ : ∃ k, Hid (k = b.toNat) := ⟨_, rfl⟩
      have hdg : Hid (digB b = (decide (48 ≤ k) && decide (k ≤ 57))) := by show _ = _; rw [hk.out]; rfl
      rw [← hk.out] at hxi htv
      by_cases h1 : k < 48
      · have h1i : (k : Int) < 48 := by omega
        have hbad : Hid (NumP S 0 false) := NumP.digit (by
          rw [hT.out]
          have h3 := hmo.out
          rw [hdg.out, show decide (48 ≤ k) = false by simp; omega, Bool.false_and, Bool.and_false] at h3
          rw [← List.take_append_drop (i + 1) r, List.all_append, h3, Bool.false_and])
        go_wp2
        exact bodyPost_ret (v := .tuple #[.int .i64 0, .bool false]) (by simp [results, Tryd.results36, go_sem]) rfl (NumR.of hbad.out (New.refl _))
      have h1i : ¬ (k : Int) < 48 := by omega
      by_cases h2 : 57 < k
      · have h2i : (57 : Int) < (k : Int) := by omega
        have hbad : Hid (NumP S 0 false) := NumP.digit (by
          rw [hT.out]
          have h3 := hmo.out
          rw [hdg.out, show decide (k ≤ 57) = false by simp; omega, Bool.and_false, Bool.and_false] at h3
          rw [← List.take_append_drop (i + 1) r, List.all_append, h3, Bool.false_and])
        go_wp2
        exact bodyPost_ret (v := .tuple #[.int .i64 0, .bool false]) (by simp [results, Tryd.results36, go_sem]) rfl (NumR.of hbad.out (New.refl _))
      have h2i : ¬ (57 : Int) < (k : Int) := by omega
      have hyes : Hid ((r.take (i + 1)).all digB = true) := by
        show _ = true
        rw [hmo.out, hok.out, hdg.out, show decide (48 ≤ k) = true by simp; omega, show decide (k ≤ 57) = true by simp; omega]
        rfl
      have hw1 : IntKind.u64.wrap ((V : Int) * 10) = (V : Int) * 10 := u64_in (by omega) (by omega)
      have hw2 : IntKind.u8.wrap ((k : Int) - 48) = (k : Int) - 48 := u8_in (by omega) (by omega)
      have hw3 : IntKind.u64.wrap ((k : Int) - 48) = (k : Int) - 48 := u64_in (by omega) (by omega)
      have hw4 : IntKind.u64.wrap ((V : Int) * 10 + ((k : Int) - 48)) = (V : Int) * 10 + ((k : Int) - 48) := u64_in (by omega) (by omega)
      go_wp2
      go_roundw
      case rel =>
        refine ⟨i + 1, by go_num, ?_, by omega, hyes, trivial⟩
        rw [htv.out]
        congr 1
        omega
      case measure => simp [intOf]; omega
    · have hin : i = m := by omega
      subst hin
      have hil : ¬ (i : Int) < (i : Int) := by omega
      have htk : Hid (r.take i = r) := List.take_of_length_le (by rw [← hm.out]; exact Nat.le_refl _)
      have hVb : valD (r.take i) < 10000000000000000000 := by
        have h := valD_lt i (r.take i) (by rw [List.length_take, ← hm.out]; omega) hok.out
        have h2 : 10 ^ i ≤ 10 ^ 19 := Nat.pow_le_pow_right (by decide) (by omega)
        have h3 : (10 : Nat) ^ 19 = 10000000000000000000 := by decide
        omega
      obtain ⟨V, hV⟩ : ∃ V, Hid (V = valD (r.take i)) := ⟨_, rfl⟩
      rw [← hV.out] at hVb ⊢
      have hVt : Hid (V = valD (tailD S)) := by show _ = _; rw [hV.out, htk.out, hT.out]
      by_cases hbig : 9223372036854775808 < V
      · have hbi : (9223372036854775808 : Int) < (V : Int) := by omega
        have hP : Hid (NumP S 0 false) := NumP.out (.inr ⟨hH.out, by rw [← hVt.out]; exact hbig⟩)
        go_wp2
        exact bodyPost_ret (v := .tuple #[.int .i64 0, .bool false]) (by simp [results, Tryd.results36, go_sem]) rfl (NumR.of hP.out (New.refl _))
      have hbi : ¬ (9223372036854775808 : Int) < (V : Int) := by omega
      obtain ⟨x, hx⟩ : ∃ x : Int, Hid (x = -(V : Int)) := ⟨_, rfl⟩
      have hx0' : -9223372036854775808 ≤ x := by rw [hx.out]; omega
      have hx1' : x ≤ 9223372036854775807 := by rw [hx.out]; omega
      have hw2 : IntKind.i64.wrap (IntKind.u64.wrap (-(V : Int))) = x := by
        rw [hx.out]
        unfold IntKind.wrap
        simp [IntKind.bits, IntKind.signed]
        omega
      have hfin : Hid (NumP S x (Lib.itoa x == S)) := NumP.fin ⟨hx0', hx1'⟩ (by rw [if_pos hH.out, ← hVt.out, hx.out])
      have hde := Lib.hid (deci_any x hx0' hx1' w)
      obtain ⟨dg, hdg⟩ : ∃ dg, Hid (dg = Lib.itoa x) := ⟨_, rfl⟩
      rw [← hdg.out] at hfin hde
      go_upto_region 19 with fail
      rw [hv.out]
      clear hlen hx0 hdlen hsl
      go_wp2_with (go_at_call 23; refine hde.out.mono ?_; rintro e w9 ⟨rfl, rfl⟩)
      exact bodyPost_ret (v := .tuple #[.int .i64 x, .bool (dg == S)]) (by simp [results, Tryd.results36, go_sem]) rfl (NumR.of hfin.out (New.refl _))
set_option maxHeartbeats 2000000 in
theorem undeci_plain (c : UInt8) (r S : Tx) (hS : S = c :: r) (hc : ¬ c = 45) (hs : S.length ≤ 1048576) (w : World) :
    Calls Tryd.prog 36 #[encStr S] w (NumR S w) := by
  replace hS := Lib.hid hS
  obtain ⟨v, hv⟩ : ∃ v, Hid (v = encStr S) := ⟨_, rfl⟩
  obtain ⟨n, hn⟩ : ∃ n, Hid (n = S.length) := ⟨_, rfl⟩
  rw [← hv.out]
  have hlen : ∀ ty, (Builtin.len_ #[9] ty #[v]).run Tryd.prog w = .ok (.int .i64 (n : Nat)) w := fun ty => by rw [hv.out, hn.out]; exact str_len _ w ty
  have hm := hn
  have hdv := hv
  obtain ⟨cn, hcn⟩ : ∃ cn, Hid (cn = c.toNat) := ⟨_, rfl⟩
  have hx0 : (Instr.index 9 v (.int .i64 0)).run Tryd.prog w = .ok (.int .u8 (cn : Nat)) w := by rw [hv.out, hcn.out, hS.out]; exact str_ix (c :: r) w 0 (by simp)
  have hcb : ((cn : Int) == 45) = false := by
    have : cn ≠ 45 := fun e => hc (by rw [hcn.out] at e; exact UInt8.toNat_inj.1 e)
    simp
    omega
  have hH : Hid (¬ S.head? = some 45) := by show ¬ _; rw [hS.out]; simp; exact hc
  have hT : Hid (tailD S = S) := by show _ = _; unfold tailD; rw [if_neg hH.out]
  clear hc
  have hnp : (0 : Int) < (n : Int) := by rw [hn.out, hS.out]; exact Int.natCast_pos.2 (Nat.succ_pos _)
  have hix : Hid (∀ i, i < n → (Instr.index 9 v (.int .i64 (i : Nat))).run Tryd.prog w = .ok (.int .u8 ((S.getD i 0).toNat : Nat)) w) := fun i hi => by rw [hdv.out]; exact str_ix S w i (by rw [← hm.out]; exact hi)
  by_cases h0 : n = 0
  · have hP : Hid (NumP S 0 false) := NumP.len (.inl (by rw [hT.out, ← hm.out]; exact h0))
    exact absurd hnp (by omega)
  have h0b : ((n : Int) == 0) = false := by simp; omega
  by_cases h19 : 19 < n
  · have hP : Hid (NumP S 0 false) := NumP.len (.inr (by rw [hT.out, ← hm.out]; exact h19))
    have h19i : (19 : Int) < (n : Int) := by omega
    go_enter Tryd.func36, Tryd.ntmps36
    go_wp2
    exact bodyPost_ret (v := .tuple #[.int .i64 0, .bool false]) (by simp [results, Tryd.results36, go_sem]) rfl (NumR.of hP.out (New.refl _))
  have h19i : ¬ (19 : Int) < (n : Int) := by omega
  go_enter Tryd.func36, Tryd.ntmps36
  go_upto_region 9 with fail
  go_loopw [7, 6] (fun x q wr => ∃ i : Nat, x = .int .i64 (i : Nat) ∧ q = .int .u64 (valD (S.take i) : Nat) ∧ i ≤ n ∧ Hid ((S.take i).all digB = true) ∧ w = wr) (fun x _ _ => n - (intOf x).toNat)
  case atStart => exact ⟨0, rfl, rfl, Nat.zero_le _, Lib.hid rfl, rfl⟩
  case round =>
    obtain ⟨i, rfl, rfl, hi, hok, rfl⟩ := hrel
    by_cases hlt : i < n
    · have hil : (i : Int) < (n : Int) := by omega
      have hxi := hix.out i hlt
      have hid : i < S.length := by rw [← hm.out]; exact hlt
      have hmo := Lib.hid (all_more digB S i hid)
      have htv := Lib.hid (take_val S i hid)
      have hVb := val_bound S i (by omega) (by omega) hok.out
      clear hid
      obtain ⟨V, hV⟩ : ∃ V, Hid (V = valD (S.take i)) := ⟨_, rfl⟩
      rw [← hV.out] at htv hVb ⊢
      obtain ⟨b, hb⟩ : ∃ b, Hid (b = S.getD i 0) := ⟨_, rfl⟩
      rw [← hb.out] at hxi hmo htv
      obtain ⟨k, hk⟩ : ∃ k, Hid (k = b.toNat) := ⟨_, rfl⟩
      have hdg : Hid (digB b = (decide (48 ≤ k) && decide (k ≤ 57))) := by show _ = _; rw [hk.out]; rfl
      rw [← hk.out] at hxi htv
      by_cases h1 : k < 48
      · have h1i : (k : Int) < 48 := by omega
        have hbad : Hid (NumP S 0 false) := NumP.digit (by
          rw [hT.out]
          have h3 := hmo.out
          rw [hdg.out, show decide (48 ≤ k) = false by simp; omega, Bool.false_and, Bool.and_false] at h3
          rw [← List.take_append_drop (i + 1) S, List.all_append, h3, Bool.false_and])
        go_wp2
        exact bodyPost_ret (v := .tuple #[.int .i64 0, .bool false]) (by simp [results, Tryd.results36, go_sem]) rfl (NumR.of hbad.out (New.refl _))
      have h1i : ¬ (k : Int) < 48 := by omega
      by_cases h2 : 57 < k
      · have h2i : (57 : Int) < (k : Int) := by omega
        have hbad : Hid (NumP S 0 false) := NumP.digit (by
          rw [hT.out]
          have h3 := hmo.out
          rw [hdg.out, show decide (k ≤ 57) = false by simp; omega, Bool.and_false, Bool.and_false] at h3
          rw [← List.take_append_drop (i + 1) S, List.all_append, h3, Bool.false_and])
        go_wp2
        exact bodyPost_ret (v := .tuple #[.int .i64 0, .bool false]) (by simp [results, Tryd.results36, go_sem]) rfl (NumR.of hbad.out (New.refl _))
      have h2i : ¬ (57 : Int) < (k : Int) := by omega
      have hyes : Hid ((S.take (i + 1)).all digB = true) := by
        show _ = true
        rw [hmo.out, hok.out, hdg.out, show decide (48 ≤ k) = true by simp; omega, show decide (k ≤ 57) = true by simp; omega]
        rfl
      have hw1 : IntKind.u64.wrap ((V : Int) * 10) = (V : Int) * 10 := u64_in (by omega) (by omega)
      have hw2 : IntKind.u8.wrap ((k : Int) - 48) = (k : Int) - 48 := u8_in (by omega) (by omega)
      have hw3 : IntKind.u64.wrap ((k : Int) - 48) = (k : Int) - 48 := u64_in (by omega) (by omega)
      have hw4 : IntKind.u64.wrap ((V : Int) * 10 + ((k : Int) - 48)) = (V : Int) * 10 + ((k : Int) - 48) := u64_in (by omega) (by omega)
      go_wp2
      go_roundw
      case rel =>
        refine ⟨i + 1, by go_num, ?_, by omega, hyes, trivial⟩
        rw [htv.out]
        congr 1
        omega
      case measure => simp [intOf]; omega
    · have hin : i = n := by omega
      subst hin
      have hil : ¬ (i : Int) < (i : Int) := by omega
      have htk : Hid (S.take i = S) := List.take_of_length_le (by rw [← hm.out]; exact Nat.le_refl _)
      have hVb : valD (S.take i) < 10000000000000000000 := by
        have h := valD_lt i (S.take i) (by rw [List.length_take, ← hm.out]; omega) hok.out
        have h2 : 10 ^ i ≤ 10 ^ 19 := Nat.pow_le_pow_right (by decide) (by omega)
        have h3 : (10 : Nat) ^ 19 = 10000000000000000000 := by decide
        omega
      obtain ⟨V, hV⟩ : ∃ V, Hid (V = valD (S.take i)) := ⟨_, rfl⟩
      rw [← hV.out] at hVb ⊢
      have hVt : Hid (V = valD (tailD S)) := by show _ = _; rw [hV.out, htk.out, hT.out]
      by_cases hbig : 9223372036854775807 < V
      · have hbi : (9223372036854775807 : Int) < (V : Int) := by omega
        have hP : Hid (NumP S 0 false) := NumP.out (.inl ⟨hH.out, by rw [← hVt.out]; exact hbig⟩)
        go_wp2
        exact bodyPost_ret (v := .tuple #[.int .i64 0, .bool false]) (by simp [results, Tryd.results36, go_sem]) rfl (NumR.of hP.out (New.refl _))
      have hbi : ¬ (9223372036854775807 : Int) < (V : Int) := by omega
      obtain ⟨x, hx⟩ : ∃ x : Int, Hid (x = (V : Int)) := ⟨_, rfl⟩
      have hx0' : -9223372036854775808 ≤ x := by rw [hx.out]; omega
      have hx1' : x ≤ 9223372036854775807 := by rw [hx.out]; omega
      have hw2 : IntKind.i64.wrap (V : Int) = x := by rw [hx.out]; exact IntWalk.i64_in _ (by omega)
      have hfin : Hid (NumP S x (Lib.itoa x == S)) := NumP.fin ⟨hx0', hx1'⟩ (by rw [if_neg hH.out, ← hVt.out, hx.out])
      have hde := Lib.hid (deci_any x hx0' hx1' w)
      obtain ⟨dg, hdg⟩ : ∃ dg, Hid (dg = Lib.itoa x) := ⟨_, rfl⟩
      rw [← hdg.out] at hfin hde
      go_upto_region 19 with fail
      rw [hv.out]
      clear hlen hx0 
      go_wp2_with (go_at_call 23; refine hde.out.mono ?_; rintro e w9 ⟨rfl, rfl⟩)
      exact bodyPost_ret (v := .tuple #[.int .i64 x, .bool (dg == S)]) (by simp [results, Tryd.results36, go_sem]) rfl (NumR.of hfin.out (New.refl _))
theorem undeci_any (s : Tx) (hs : s.length ≤ 1048576) (w : World) :
    Calls Tryd.prog 36 #[encStr s] w (NumR s w) := by
  cases s with
  | nil => exact undeci_nil w
  | cons c r =>
    by_cases h : c = 45
    · subst h
      exact undeci_minus r _ rfl hs w
    · exact undeci_plain c r _ rfl h hs w
end Go.Proofs.YtaommipcdcncnaaDoor.desk
