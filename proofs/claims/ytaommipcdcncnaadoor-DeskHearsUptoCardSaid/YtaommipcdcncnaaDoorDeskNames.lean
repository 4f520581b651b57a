/-
  Contracts of both judges of names (as in the texts on package pool).
-/
import Derived.Test.YtaommipcdcncnaaDoorDeskHexa
import Derived.Test.YtaommipcdcncnaaDoorCopyRow
import Derived.Laws.IdiomStrings
namespace Go.Proofs.YtaommipcdcncnaaDoor.desk
open Go.ChangeShapes Go.WideShapes Go.ChangeAt Go.RowKit Go.Proofs.YtaommipcdcncnaaDoor.kit Go.Deep
set_option linter.unusedVariables false
set_option maxRecDepth 100000
abbrev Nm := List UInt8
def okB (c : UInt8) : Bool := (decide (97 ≤ c.toNat) && decide (c.toNat ≤ 122)) || (decide (48 ≤ c.toNat) && decide (c.toNat ≤ 57))
def goodN (s : Nm) : Bool := s.all okB && (decide (1 ≤ s.length) && decide (s.length ≤ 8))
theorem conv_any (s : Nm) (w : World) : ∃ c w1, (convert 9 23 (encStr s)).run Tryd.prog w = .ok (.slice (some ⟨w.heap.size, 0, none⟩) s.length c) w1 ∧ New w w1 ∧ ∀ j, j < s.length → w1.cell? ⟨w.heap.size, j, none⟩ = some (.int .u8 ((s.getD j 0).toNat : Nat)) := by
  have h := run_bytes_of_string (P := Tryd.prog) w 9 23 5 ⟨s.toArray⟩ Tryd.underlying9 Tryd.underlying23 Tryd.underlying5
  refine ⟨_, _, h, ((New.refl w).drew).alloc _, fun j hj => ?_⟩
  have h2 := bytesRow_at ⟨s.toArray⟩ (grownCap w (ByteArray.size ⟨s.toArray⟩) 0 5) j (by simpa using hj)
  have h3 := cell_of_row (w.drew.alloc (.cells (bytesRow ⟨s.toArray⟩ (grownCap w (ByteArray.size ⟨s.toArray⟩) 0 5)) 5 ((bytesRow ⟨s.toArray⟩ (grownCap w (ByteArray.size ⟨s.toArray⟩) 0 5)).size, (bytesRow ⟨s.toArray⟩ (grownCap w (ByteArray.size ⟨s.toArray⟩) 0 5)).size + 1))) w.heap.size j _ _ _ (heap_alloc_new w.drew _)
  rw [h3, h2]
  simp [List.getD, hj]
theorem all_more (p : UInt8 → Bool) (l : List UInt8) (i : Nat) (h : i < l.length) : (l.take (i + 1)).all p = ((l.take i).all p && p (l.getD i 0)) := by
  rw [List.take_add_one, List.getElem?_eq_getElem h, Option.toList_some, List.all_append]
  simp [List.getD, h]
theorem ok_iff (c : UInt8) : okB c = true ↔ (97 ≤ c.toNat ∧ c.toNat ≤ 122) ∨ (48 ≤ c.toNat ∧ c.toNat ≤ 57) := by
  unfold okB
  rw [Bool.or_eq_true, Bool.and_eq_true, Bool.and_eq_true, decide_eq_true_eq, decide_eq_true_eq, decide_eq_true_eq, decide_eq_true_eq]
theorem Name_any (s : Nm) (hs : s.length ≤ maxLen) (w : World) : Calls Tryd.prog 18 #[encStr s] w fun e w' => e = .returned (.bool (goodN s)) ∧ New w w' := by
  unfold maxLen at hs
  obtain ⟨c, w1, hcv, hn, hcell⟩ := conv_any s w
  have hcell := Lib.hid hcell
  have hnH := Lib.hid hn
  obtain ⟨n, hnn⟩ : ∃ n, n = s.length := ⟨_, rfl⟩
  have hnl : Hid (n = s.length) := hnn
  rw [← hnn] at hcv hs
  obtain ⟨v, hv⟩ : ∃ v, Hid (v = encStr s) := ⟨_, rfl⟩
  have hlen : ∀ ty, (Builtin.len_ #[9] ty #[v]).run Tryd.prog w1 = .ok (.int .i64 (n : Nat)) w1 := fun ty => by
    rw [hv.out, hnn]
    simp [Builtin.len_, run_underlying Tryd.underlying9, goInt, Result.andThen]
    rfl
  rw [← hv.out] at hcv ⊢
  clear hn hnn
  go_enter Tryd.func18, Tryd.ntmps18
  go_wp2_with fail
  go_loopw [8] (fun x wr => ∃ i, x = .int .i64 (i : Nat) ∧ i ≤ n ∧ Hid ((s.take i).all okB = true) ∧ w1 = wr) (fun x _ => n - (intOf x).toNat)
  case atStart => exact ⟨0, rfl, Nat.zero_le _, Lib.hid rfl, rfl⟩
  case round =>
    obtain ⟨i, rfl, hi, hok, rfl⟩ := hrel
    by_cases hlt : i < n
    · have e0 := hcell.out i (by have := hnl.out; omega)
      have hil : (i : Int) < (n : Int) := by omega
      have hmo := Lib.hid (all_more okB s i (by have := hnl.out; omega))
      have hoi := Lib.hid (ok_iff (s.getD i 0))
      obtain ⟨b, hb⟩ : ∃ b, Hid (b = s.getD i 0) := ⟨_, rfl⟩
      rw [← hb.out] at e0 hmo hoi
      obtain ⟨k, hk⟩ : ∃ k, Hid (k = b.toNat) := ⟨_, rfl⟩
      rw [← hk.out] at e0 hoi
      by_cases hg : (97 ≤ k ∧ k ≤ 122) ∨ (48 ≤ k ∧ k ≤ 57)
      · have hyes : Hid ((s.take (i + 1)).all okB = true) := by
          show _ = true
          rw [hmo.out, hok.out, hoi.out.2 hg]
          rfl
        rcases hg with ⟨h1, h2⟩ | ⟨h1, h2⟩
        · have h1' : ¬ (k : Int) < 97 := by omega
          have h2' : ¬ (122 : Int) < (k : Int) := by omega
          go_wp2
          go_roundw
          case rel => exact ⟨i + 1, by go_num, by omega, hyes, trivial⟩
          case measure => simp [intOf]; omega
        · have h0' : (k : Int) < 97 := by omega
          have h1' : ¬ (k : Int) < 48 := by omega
          have h2' : ¬ (57 : Int) < (k : Int) := by omega
          go_wp2
          go_roundw
          case rel => exact ⟨i + 1, by go_num, by omega, hyes, trivial⟩
          case measure => simp [intOf]; omega
      · have hbad : Hid (goodN s = false) := by
          have hbf : okB b = false := by
            cases h : okB b with
            | false => rfl
            | true => exact absurd (hoi.out.1 h) hg
          show _ = false
          unfold goodN
          have h3 := hmo.out
          rw [hbf, Bool.and_false] at h3
          have : s.all okB = false := by
            cases h : s.all okB with
            | false => rfl
            | true =>
              rw [List.all_eq_true] at h
              rw [List.all_eq_false] at h3
              obtain ⟨x, hx, hx2⟩ := h3
              exact absurd (h x (List.mem_of_mem_take hx)) hx2
          rw [this, Bool.false_and]
        by_cases h1 : k < 97
        · have h1' : (k : Int) < 97 := by omega
          by_cases h2 : k < 48
          · have h2' : (k : Int) < 48 := by omega
            go_wp2
            exact bodyPost_ret (v := .bool false) (by simp [results, Tryd.results18, go_sem]) rfl ⟨by rw [hbad.out], hnH.out⟩
          · have h2' : ¬ (k : Int) < 48 := by omega
            have h3' : (57 : Int) < (k : Int) := by omega
            go_wp2
            exact bodyPost_ret (v := .bool false) (by simp [results, Tryd.results18, go_sem]) rfl ⟨by rw [hbad.out], hnH.out⟩
        · have h1' : ¬ (k : Int) < 97 := by omega
          have h2' : (122 : Int) < (k : Int) := by omega
          have h3' : ¬ (k : Int) < 48 := by omega
          have h4' : (57 : Int) < (k : Int) := by omega
          go_wp2
          exact bodyPost_ret (v := .bool false) (by simp [results, Tryd.results18, go_sem]) rfl ⟨by rw [hbad.out], hnH.out⟩
    · have him : n = i := by omega
      subst him
      have hall : Hid (goodN s = (decide (1 ≤ n) && decide (n ≤ 8))) := by
        show _ = _
        have h1 := hok.out
        rw [hnl.out, List.take_length] at h1
        unfold goodN
        rw [h1, Bool.true_and, hnl.out]
      clear hok
      by_cases h1 : 1 ≤ n
      · have h1' : (1 : Int) ≤ (n : Int) := by omega
        go_wp2
        exact bodyPost_ret (v := .bool (decide ((n : Int) ≤ 8))) (by simp [results, Tryd.results18, go_sem]) rfl ⟨by rw [hall.out]; simp [h1]; omega, hnH.out⟩
      · have h1' : ¬ (1 : Int) ≤ (n : Int) := by omega
        go_wp2
        exact bodyPost_ret (v := .bool false) (by simp [results, Tryd.results18, go_sem]) rfl ⟨by rw [hall.out]; simp [h1], hnH.out⟩
theorem goodName_any (s : Nm) (hs : s.length ≤ maxLen) (w : World) : Calls Tryd.prog 25 #[encStr s] w fun e w' => e = .returned (.bool (goodN s)) ∧ w = w' := by
  unfold maxLen at hs
  obtain ⟨n, hnn⟩ : ∃ n, n = s.length := ⟨_, rfl⟩
  have hnl : Hid (n = s.length) := hnn
  obtain ⟨v, hv⟩ : ∃ v, Hid (v = encStr s) := ⟨_, rfl⟩
  have hlen : ∀ ty, (Builtin.len_ #[9] ty #[v]).run Tryd.prog w = .ok (.int .i64 (n : Nat)) w := fun ty => by
    rw [hv.out, hnn]
    simp [Builtin.len_, run_underlying Tryd.underlying9, goInt, Result.andThen]
    rfl
  have hix : Hid (∀ i, i < n → (Instr.index 9 v (.int .i64 (i : Nat))).run Tryd.prog w = .ok (.int .u8 ((s.getD i 0).toNat : Nat)) w) := fun i hi => by
    rw [hv.out]
    have h1 := run_index_string (P := Tryd.prog) (w := w) 9 ⟨s.toArray⟩ .i64 (i : Nat) Tryd.underlying9
    have h2 : i < s.length := by omega
    rw [h1, dif_pos ⟨by omega, by show (i : Int) < (s.length : Nat); omega⟩]
    have h3 : s.getD i 0 = s[i] := by simp [List.getD, h2]
    rw [h3]
    rfl
  rw [← hv.out]
  rw [← hnn] at hs
  clear hnn
  go_enter Tryd.func25, Tryd.ntmps25
  by_cases h0 : n < 1
  · have h0' : (n : Int) < 1 := by omega
    have hr : Hid (goodN s = false) := by show _ = _; unfold goodN; rw [← hnl.out, show decide (1 ≤ n) = false by simp; omega]; simp
    go_wp2
    exact bodyPost_ret (v := .bool false) (by simp [results, Tryd.results25, go_sem]) rfl ⟨by rw [hr.out], rfl⟩
  have h0' : ¬ (n : Int) < 1 := by omega
  by_cases h8 : 8 < n
  · have h8' : (8 : Int) < (n : Int) := by omega
    have hr : Hid (goodN s = false) := by show _ = _; unfold goodN; rw [← hnl.out, show decide (n ≤ 8) = false by simp; omega]; simp
    go_wp2
    exact bodyPost_ret (v := .bool false) (by simp [results, Tryd.results25, go_sem]) rfl ⟨by rw [hr.out], rfl⟩
  have h8' : ¬ (8 : Int) < (n : Int) := by omega
  go_wp2_with fail
  go_loopw [3] (fun x wr => ∃ i, x = .int .i64 (i : Nat) ∧ i ≤ n ∧ Hid ((s.take i).all okB = true) ∧ w = wr) (fun x _ => n - (intOf x).toNat)
  case atStart => exact ⟨0, rfl, Nat.zero_le _, Lib.hid rfl, rfl⟩
  case round =>
    obtain ⟨i, rfl, hi, hok, rfl⟩ := hrel
    by_cases hlt : i < n
    · have hil : (i : Int) < (n : Int) := by omega
      have hxi := hix.out i hlt
      have hmo := Lib.hid (all_more okB s i (by have := hnl.out; omega))
      have hoi := Lib.hid (ok_iff (s.getD i 0))
      obtain ⟨b, hb⟩ : ∃ b, Hid (b = s.getD i 0) := ⟨_, rfl⟩
      rw [← hb.out] at hxi hmo hoi
      obtain ⟨k, hk⟩ : ∃ k, Hid (k = b.toNat) := ⟨_, rfl⟩
      rw [← hk.out] at hxi hoi
      by_cases hg : (97 ≤ k ∧ k ≤ 122) ∨ (48 ≤ k ∧ k ≤ 57)
      · have hyes : Hid ((s.take (i + 1)).all okB = true) := by
          show _ = true
          rw [hmo.out, hok.out, hoi.out.2 hg]
          rfl
        rcases hg with ⟨h1, h2⟩ | ⟨h1, h2⟩
        · have h1' : (97 : Int) ≤ (k : Int) := by omega
          have h2' : (k : Int) ≤ 122 := by omega
          go_wp2
          go_roundw
          case rel => exact ⟨i + 1, by go_num, by omega, hyes, trivial⟩
          case measure => simp [intOf]; omega
        · have h0a : ¬ (97 : Int) ≤ (k : Int) := by omega
          have h1' : (48 : Int) ≤ (k : Int) := by omega
          have h2' : (k : Int) ≤ 57 := by omega
          go_wp2
          go_roundw
          case rel => exact ⟨i + 1, by go_num, by omega, hyes, trivial⟩
          case measure => simp [intOf]; omega
      · have hbad : Hid (goodN s = false) := by
          have hbf : okB b = false := by
            cases h : okB b with
            | false => rfl
            | true => exact absurd (hoi.out.1 h) hg
          show _ = false
          unfold goodN
          have h3 := hmo.out
          rw [hbf, Bool.and_false] at h3
          have : s.all okB = false := by
            cases h : s.all okB with
            | false => rfl
            | true =>
              rw [List.all_eq_true] at h
              rw [List.all_eq_false] at h3
              obtain ⟨x, hx, hx2⟩ := h3
              exact absurd (h x (List.mem_of_mem_take hx)) hx2
          rw [this, Bool.false_and]
        by_cases h1 : k < 97
        · have h1' : ¬ (97 : Int) ≤ (k : Int) := by omega
          by_cases h2 : k < 48
          · have h2' : ¬ (48 : Int) ≤ (k : Int) := by omega
            go_wp2
            exact bodyPost_ret (v := .bool false) (by simp [results, Tryd.results25, go_sem]) rfl ⟨by rw [hbad.out], rfl⟩
          · have h2' : (48 : Int) ≤ (k : Int) := by omega
            have h3' : ¬ (k : Int) ≤ 57 := by omega
            go_wp2
            exact bodyPost_ret (v := .bool false) (by simp [results, Tryd.results25, go_sem]) rfl ⟨by rw [hbad.out], rfl⟩
        · have h1' : (97 : Int) ≤ (k : Int) := by omega
          have h2' : ¬ (k : Int) ≤ 122 := by omega
          have h3' : (48 : Int) ≤ (k : Int) := by omega
          have h4' : ¬ (k : Int) ≤ 57 := by omega
          go_wp2
          exact bodyPost_ret (v := .bool false) (by simp [results, Tryd.results25, go_sem]) rfl ⟨by rw [hbad.out], rfl⟩
    · have him : n = i := by omega
      subst him
      have hall : Hid (goodN s = true) := by
        show _ = _
        have h1 := hok.out
        rw [hnl.out, List.take_length] at h1
        unfold goodN
        rw [h1, Bool.true_and, ← hnl.out]
        simp
        omega
      clear hok
      go_wp2
      exact bodyPost_ret (v := .bool true) (by simp [results, Tryd.results25, go_sem]) rfl ⟨by rw [hall.out], rfl⟩
end Go.Proofs.YtaommipcdcncnaaDoor.desk
