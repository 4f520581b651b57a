/-
  Contracts of space.Replay and of the reference's SpaceReplayed.
-/
import Derived.Test.YthjjchlibbheaaaSpaceRuns
namespace Go.Proofs.Ythjjchlibbheaaa.space
open Go.ChangeShapes Go.WideShapes Go.ChangeAt Go.RowKit Go.Proofs.Ythjjchlibbheaaa.kit Go.Deep
set_option linter.unusedVariables false

theorem enter_of {P : Program} {f : FuncId} {fn : Func} {c : Code} (hf : P.funcs[f]? = some fn) (hname : (fn.name == "runtime.NumGoroutine") = false) (hb : fn.body = some c) :
    ∀ (args : Array Value) (w : World), (callFunc f args).run P w = .ok (.enter f args) w := by
  intro args w
  have h1 : fn.name ≠ "runtime.NumGoroutine" := by simpa using hname
  simp [callFunc, hf, h1, hb]
set_option maxRecDepth 100000 in
theorem enterReplay1 : ∀ (args : Array Value) (w : World), (callFunc 33 args).run Try.prog w = .ok (.enter 33 args) w := enter_of (fn := Try.f33) (by rfl) (by kernel_rfl) (by rfl)
theorem Replay1_any (x : Nat) (w : World) : Calls Try.prog 33 #[.int .u8 (x : Nat)] w fun e w' => e = .returned (.bool (decide (x = 0))) ∧ New w w' := by
  by_cases h : x = 0
  · subst h
    go_enter Try.func33, Try.ntmps33
    go_wp2
    go_ret
    exact ⟨rfl, New.refl _⟩
  · have hb : ((x : Int) == 0) = false := by simp; omega
    have hd : decide (x = 0) = false := decide_eq_false h
    rw [hd]
    go_enter Try.func33, Try.ntmps33
    go_wp2
    go_ret
    exact ⟨rfl, New.refl _⟩
/-- a code, and a list of ranges of one's own -/
def AnsR (cd : Int) (L : List (Nat × Nat)) (w : World) (e : Ending) (w' : World) : Prop :=
  ∃ v, e = .returned (.tuple #[v, .int .i64 cd]) ∧ w'.ownsRow w.heap.size 75 2 v L.length (rgL L) ∧ New w w'
theorem ansNil (cd : Int) {w w' : World} (h : New w w') : AnsR cd [] w (.returned (.tuple #[.slice none 0 0, .int .i64 cd])) w' := ⟨_, rfl, World.ownsRow_nil _ _ _ _, h⟩
/-- what is free behind all records -/
def freeL (n m : Nat) (B : Nat → Bool) (F T : Nat → Int) : List (Nat × Nat) := listN (fun i => decide (uAt B F T m i = 0)) n
def overL (L : List (Nat × Nat)) : List (Nat × Nat) := if 200 < L.length then [] else L
def overC (L : List (Nat × Nat)) : Int := if 200 < L.length then 8 else 0
theorem Replay_ok (n m c : Nat) (A : Option Addr) (B : Nat → Bool) (F T : Nat → Int) (w : World) (h1 : 1 ≤ n) (hn : n ≤ 4096) (hm : m ≤ 4096) (hR : RdR w A m B F T) (hok : okAll n B F T m) :
    Calls Try.prog 10 #[.int .i64 n, .slice A m c] w (AnsR (overC (freeL n m B F T)) (overL (freeL n m B F T)) w) := by
  have hrep := Lib.hid (replayed_ok n m c A B F T w h1 hn hm hR)
  obtain ⟨L, hL⟩ : ∃ L, Hid (L = freeL n m B F T) := ⟨_, (rfl : _ = _)⟩
  obtain ⟨u, hu⟩ : ∃ u, Hid (u = uAt B F T m) := ⟨_, (rfl : _ = _)⟩
  have hend : Hid ((stN (fun i => decide (i < n) && decide (u i = 0)) (n + 1)).1 = L) := by
    rw [hL.out, hu.out]
    exact list_end _ n _ (fun i hi => by simp [hi]) (by simp)
  rw [← hL.out]
  have hL5 : L.length ≤ 4097 := by rw [hL.out]; exact Nat.le_trans (listN_len _ _) (by omega)
  have hok0 := Lib.hid hok
  clear hR hok
  go_enter Try.func10, Try.ntmps10
  go_wp2_with fail
  refine hrep.out.mono ?_
  rintro e w1 ⟨(⟨_, rfl, hSp⟩ | ⟨hno, _⟩), hn1⟩
  · rw [← hu.out] at hSp
    go_wp2_with fail
    refine (runs_ok (w.heap.size + 1) w.heap.size n 0 (.slice none 0 0) u 33 enterReplay1 (fun x => decide (x = 0)) w1 hSp hn (fun x w2 hn2 => Replay1_any x w2) (fun i => decide (i < n) && decide (u i = 0)) (fun i hi => by simp [hi]) (by simp)).mono ?_
    rw [hend.out]
    rintro e w2 ⟨v, rfl, ho, hn2⟩
    have hN := hn1.next hn2
    have ho1 := Lib.hid (ho.mono hn1.size)
    obtain ⟨A2, c2, rfl, hc1, hc2, hdrop⟩ := own_open ho
    clear hdrop ho
    by_cases hlong : (200 : Int) < (L.length : Int)
    · have e1 : Hid (overC L = 8) := by unfold overC; rw [if_pos (by omega)]; exact (rfl : _ = _)
      have e2 : Hid (overL L = []) := by unfold overL; rw [if_pos (by omega)]; exact (rfl : _ = _)
      go_wp2
      go_ret2
      rw [e1.out, e2.out]
      exact ansNil 8 hN
    · have e1 : Hid (overC L = 0) := by unfold overC; rw [if_neg (by omega)]; exact (rfl : _ = _)
      have e2 : Hid (overL L = L) := by unfold overL; rw [if_neg (by omega)]; exact (rfl : _ = _)
      go_wp2
      go_ret2
      rw [e1.out, e2.out]
      exact ⟨_, rfl, ho1.out, hN⟩
  · exact absurd hok0.out hno
theorem Replay_no (n m c : Nat) (A : Option Addr) (B : Nat → Bool) (F T : Nat → Int) (w : World) (h1 : 1 ≤ n) (hn : n ≤ 4096) (hm : m ≤ 4096) (hR : RdR w A m B F T) (hok : ¬ okAll n B F T m) :
    Calls Try.prog 10 #[.int .i64 n, .slice A m c] w (AnsR 4 [] w) := by
  have hrep := Lib.hid (replayed_ok n m c A B F T w h1 hn hm hR)
  have hok0 := Lib.hid hok
  clear hR hok
  go_enter Try.func10, Try.ntmps10
  go_wp2_with fail
  refine hrep.out.mono ?_
  rintro e w1 ⟨(⟨hyes, _⟩ | ⟨_, rfl⟩), hn1⟩
  · exact absurd hyes hok0.out
  · go_wp2
    go_ret2
    exact ansNil 4 hn1
theorem Replay_code (cd : Int) (hc : cd = 1 ∨ cd = 2) (n : Int) (v : Value) (w : World) (h : Calls Try.prog 31 #[.int .i64 n, v] w fun e w' => e = .returned (.tuple #[.pointer none, .int .i64 cd]) ∧ w = w') :
    Calls Try.prog 10 #[.int .i64 n, v] w (AnsR cd [] w) := by
  have h0 := Lib.hid h
  clear h
  have hcb : (cd != 0) = true := by simp; omega
  have hcn : cd ≠ 0 := by omega
  go_enter Try.func10, Try.ntmps10
  go_wp2_with fail
  refine h0.out.mono ?_
  rintro e w1 ⟨rfl, rfl⟩
  go_wp2
  go_ret2
  exact ansNil cd (New.refl _)
theorem SpaceReplayed_code (cd : Int) (hc : cd = 1 ∨ cd = 2) (n : Int) (v : Value) (w : World) (h : Calls Try.prog 34 #[.int .i64 n, v] w fun e w' => e = .returned (.tuple #[.slice none 0 0, .int .i64 cd]) ∧ w = w') :
    Calls Try.prog 11 #[.int .i64 n, v] w (AnsR cd [] w) := by
  have h0 := Lib.hid h
  clear h
  have hcb : (cd != 0) = true := by simp; omega
  have hcn : cd ≠ 0 := by omega
  go_enter Try.func11, Try.ntmps11
  go_wp2_with fail
  refine h0.out.mono ?_
  rintro e w1 ⟨rfl, rfl⟩
  go_wp2
  go_ret2
  exact ansNil cd (New.refl _)
theorem SpaceReplayed_no (n m c : Nat) (A : Option Addr) (B : Nat → Bool) (F T : Nat → Int) (w : World) (h1 : 1 ≤ n) (hn : n ≤ 4096) (hm : m ≤ 4096) (hR : RdR w A m B F T) (hok : ¬ okAll n B F T m) :
    Calls Try.prog 11 #[.int .i64 n, .slice A m c] w (AnsR 4 [] w) := by
  have hrep := Lib.hid (spaceAgain_ok n m c A B F T w h1 hn hm hR)
  have hok0 := Lib.hid hok
  clear hR hok
  go_enter Try.func11, Try.ntmps11
  go_wp2_with fail
  refine hrep.out.mono ?_
  rintro e w1 ⟨(⟨hyes, _⟩ | ⟨_, rfl⟩), hn1⟩
  · exact absurd hyes hok0.out
  · go_wp2
    go_ret2
    exact ansNil 4 hn1
theorem SpaceReplayed_ok (n m c : Nat) (A : Option Addr) (B : Nat → Bool) (F T : Nat → Int) (w : World) (h1 : 1 ≤ n) (hn : n ≤ 4096) (hm : m ≤ 4096) (hR : RdR w A m B F T) (hok : okAll n B F T m) :
    Calls Try.prog 11 #[.int .i64 n, .slice A m c] w (AnsR (overC (freeL n m B F T)) (overL (freeL n m B F T)) w) := by
  have hrep := Lib.hid (spaceAgain_ok n m c A B F T w h1 hn hm hR)
  obtain ⟨L, hL⟩ : ∃ L, Hid (L = freeL n m B F T) := ⟨_, (rfl : _ = _)⟩
  obtain ⟨u, hu⟩ : ∃ u, Hid (u = uAt B F T m) := ⟨_, (rfl : _ = _)⟩
  have hend : Hid (listN (fun i => decide (u i = 0)) n = L) := by rw [hL.out, hu.out]; exact (rfl : _ = _)
  rw [← hL.out]
  have hL5 : L.length ≤ 4097 := by rw [hL.out]; exact Nat.le_trans (listN_len _ _) (by omega)
  have hok0 := Lib.hid hok
  clear hR hok
  go_enter Try.func11, Try.ntmps11
  go_wp2_with fail
  refine hrep.out.mono ?_
  rintro e w1 ⟨(⟨_, rfl, hSp⟩ | ⟨hno, _⟩), hn1⟩
  · rw [← hu.out] at hSp
    go_wp2_with fail
    refine (stretches_ok w.heap.size n 0 u w1 hSp hn).mono ?_
    rw [hend.out]
    rintro e w2 ⟨v, rfl, ho, hn2⟩
    have hN := hn1.next hn2
    have ho1 := Lib.hid (ho.mono hn1.size)
    obtain ⟨A2, c2, rfl, hc1, hc2, hdrop⟩ := own_open ho
    clear hdrop ho
    by_cases hlong : (200 : Int) < (L.length : Int)
    · have e1 : Hid (overC L = 8) := by unfold overC; rw [if_pos (by omega)]; exact (rfl : _ = _)
      have e2 : Hid (overL L = []) := by unfold overL; rw [if_pos (by omega)]; exact (rfl : _ = _)
      go_wp2
      go_ret2
      rw [e1.out, e2.out]
      exact ansNil 8 hN
    · have e1 : Hid (overC L = 0) := by unfold overC; rw [if_neg (by omega)]; exact (rfl : _ = _)
      have e2 : Hid (overL L = L) := by unfold overL; rw [if_neg (by omega)]; exact (rfl : _ = _)
      go_wp2
      go_ret2
      rw [e1.out, e2.out]
      exact ⟨_, rfl, ho1.out, hN⟩
  · exact absurd hok0.out hno
theorem rgL_at : ∀ (l : List (Nat × Nat)) (i : Nat) (h : i < l.length), (rgL l)[i * 2]? = some (.int .i64 ((l[i]).1 : Nat)) ∧ (rgL l)[i * 2 + 1]? = some (.int .i64 ((l[i]).2 : Nat))
  | [], i, h => absurd h (Nat.not_lt_zero i)
  | p :: l, 0, _ => ⟨rfl, rfl⟩
  | p :: l, i + 1, h => by
    have ih := rgL_at l i (by simpa using h)
    have e : rgL (p :: l) = rgV p ++ rgL l := rfl
    rw [e, List.getElem?_append_right (by simp [rgV]; omega), List.getElem?_append_right (by simp [rgV]; omega), show (i + 1) * 2 - (rgV p).length = i * 2 by simp [rgV]; omega, show (i + 1) * 2 + 1 - (rgV p).length = i * 2 + 1 by simp [rgV]; omega]
    exact ih
theorem sameRanges_eq (L : List (Nat × Nat)) (hn : L.length ≤ 4097) (v v' : Value) (b b' : Nat) (w : World) (h : w.ownsRow b 75 2 v L.length (rgL L)) (h' : w.ownsRow b' 75 2 v' L.length (rgL L)) :
    Calls Try.prog 12 #[v, v'] w fun e w' => e = .returned (.bool true) ∧ New w w' := by
  obtain ⟨A, c, rfl, hc1, hc2, hA, hcell⟩ := own_open h
  obtain ⟨A', c', rfl, hc1', hc2', hA', hcell'⟩ := own_open h'
  have hcl := Lib.hid hcell
  have hcl' := Lib.hid hcell'
  have hA1 := Lib.hid hA
  have hA1' := Lib.hid hA'
  obtain ⟨n, hnL⟩ : ∃ n, Hid (L.length = n) := ⟨_, (rfl : _ = _)⟩
  rw [hnL.out] at hn hc1 hc1' ⊢
  clear hcell hcell' hA hA' h h'
  go_enter Try.func12, Try.ntmps12
  go_wp2
  go_loopw [5] (fun k wr => ∃ i : Nat, k = .int .i64 i ∧ i ≤ n ∧ New w wr) (fun k _ => n - (intOf k).toNat)
  case atStart => exact ⟨0, rfl, by omega, New.refl w⟩
  case round =>
    obtain ⟨i, rfl, hi, hnw⟩ := hrel
    by_cases hlt : i < n
    · have hiL : i < L.length := by rw [hnL.out]; exact hlt
      obtain ⟨g, rfl, _, hg⟩ := hA1.out (by omega)
      obtain ⟨g', rfl, _, hg'⟩ := hA1'.out (by omega)
      obtain ⟨q1, q2⟩ := rgL_at L i hiL
      generalize (((L[i]).1 : Nat) : Int) = x at q1
      generalize (((L[i]).2 : Nat) : Int) = y at q2
      have c0 := (hnw.cell (p := ⟨g, i * 2, none⟩) hg).trans (hcl.out g rfl (i * 2) _ q1)
      have c1 := (hnw.cell (p := ⟨g, i * 2 + 1, none⟩) hg).trans (hcl.out g rfl (i * 2 + 1) _ q2)
      have d0 := (hnw.cell (p := ⟨g', i * 2, none⟩) hg').trans (hcl'.out g' rfl (i * 2) _ q1)
      have d1 := (hnw.cell (p := ⟨g', i * 2 + 1, none⟩) hg').trans (hcl'.out g' rfl (i * 2 + 1) _ q2)
      clear q1 q2 hiL
      have i0 : (0 : Int) ≤ (i : Int) := by omega
      have i1 : (i : Int) < (n : Int) := by omega
      go_wp2
      go_quiet (fail)
      go_wp2
      go_roundw
      case rel => exact ⟨i + 1, by go_num, by omega, hnw.drewN _⟩
      case measure => simp [intOf]; omega
    · have hin : i = n := by omega
      subst hin
      go_wp2
      go_ret
      exact ⟨rfl, hnw⟩
end Go.Proofs.Ythjjchlibbheaaa.space
