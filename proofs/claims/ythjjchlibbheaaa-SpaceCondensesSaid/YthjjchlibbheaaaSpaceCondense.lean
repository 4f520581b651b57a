/-
  Contracts of space.Condense and of the reference's SpaceCondensed.
-/
import Derived.Test.YthjjchlibbheaaaSpaceReplay
namespace Go.Proofs.Ythjjchlibbheaaa.space
open Go.ChangeShapes Go.WideShapes Go.ChangeAt Go.RowKit Go.Proofs.Ythjjchlibbheaaa.kit Go.Deep
set_option linter.unusedVariables false

theorem infoRecord : (Try.prog.info? 77).map (fun i => (i.zero, i.size, i.bytes)) = some (some (.agg #[.bool false, .int .i64 0, .int .i64 0]), 3, 24) := by kernel_rfl
set_option maxRecDepth 100000 in
theorem enterCondense1 : ∀ (args : Array Value) (w : World), (callFunc 36 args).run Try.prog w = .ok (.enter 36 args) w := enter_of (fn := Try.f36) (by rfl) (by kernel_rfl) (by rfl)
theorem Condense1_any (x : Nat) (w : World) : Calls Try.prog 36 #[.int .u8 (x : Nat)] w fun e w' => e = .returned (.bool (decide (x = 1))) ∧ New w w' := by
  by_cases h : x = 1
  · subst h
    go_enter Try.func36, Try.ntmps36
    go_wp2
    go_ret
    exact ⟨rfl, New.refl _⟩
  · have hb : ((x : Int) == 1) = false := by simp; omega
    have hd : decide (x = 1) = false := decide_eq_false h
    rw [hd]
    go_enter Try.func36, Try.ntmps36
    go_wp2
    go_ret
    exact ⟨rfl, New.refl _⟩
/-- records of ranges that are taken -/
def rcV (p : Nat × Nat) : List Value := [.bool false, .int .i64 (p.1 : Nat), .int .i64 (p.2 : Nat)]
def rcL (l : List (Nat × Nat)) : List Value := l.flatMap rcV
theorem rcL_app (l : List (Nat × Nat)) (p : Nat × Nat) : rcL (l ++ [p]) = rcL l ++ rcV p := by simp [rcL]
theorem rcL_at : ∀ (l : List (Nat × Nat)) (i : Nat) (h : i < l.length), (rcL l)[i * 3]? = some (.bool false) ∧ (rcL l)[i * 3 + 1]? = some (.int .i64 ((l[i]).1 : Nat)) ∧ (rcL l)[i * 3 + 2]? = some (.int .i64 ((l[i]).2 : Nat))
  | [], i, h => absurd h (Nat.not_lt_zero i)
  | p :: l, 0, _ => ⟨rfl, rfl, rfl⟩
  | p :: l, i + 1, h => by
    have ih := rcL_at l i (by simpa using h)
    have e : rcL (p :: l) = rcV p ++ rcL l := rfl
    rw [e, List.getElem?_append_right (by simp [rcV]; omega), List.getElem?_append_right (by simp [rcV]; omega), List.getElem?_append_right (by simp [rcV]; omega), show (i + 1) * 3 - (rcV p).length = i * 3 by simp [rcV]; omega, show (i + 1) * 3 + 1 - (rcV p).length = i * 3 + 1 by simp [rcV]; omega, show (i + 1) * 3 + 2 - (rcV p).length = i * 3 + 2 by simp [rcV]; omega]
    exact ih
def AnsC (cd : Int) (L : List (Nat × Nat)) (w : World) (e : Ending) (w' : World) : Prop :=
  ∃ v, e = .returned (.tuple #[v, .int .i64 cd]) ∧ w'.ownsRow w.heap.size 77 3 v L.length (rcL L) ∧ New w w'
theorem ansNilC (cd : Int) {w w' : World} (h : New w w') : AnsC cd [] w (.returned (.tuple #[.slice none 0 0, .int .i64 cd])) w' := ⟨_, rfl, World.ownsRow_nil _ _ _ _, h⟩
def takenL (n m : Nat) (B : Nat → Bool) (F T : Nat → Int) : List (Nat × Nat) := listN (fun i => decide (uAt B F T m i = 1)) n
theorem Condense_ok (n m c : Nat) (A : Option Addr) (B : Nat → Bool) (F T : Nat → Int) (w : World) (h1 : 1 ≤ n) (hn : n ≤ 4096) (hm : m ≤ 4096) (hR : RdR w A m B F T) (hok : okAll n B F T m) :
    Calls Try.prog 13 #[.int .i64 n, .slice A m c] w (AnsC 0 (takenL n m B F T) w) := by
  have hrep := Lib.hid (replayed_ok n m c A B F T w h1 hn hm hR)
  obtain ⟨L, hL⟩ : ∃ L, Hid (L = takenL n m B F T) := ⟨_, (rfl : _ = _)⟩
  obtain ⟨u, hu⟩ : ∃ u, Hid (u = uAt B F T m) := ⟨_, (rfl : _ = _)⟩
  have hend : Hid ((stN (fun i => decide (i < n) && decide (u i = 1)) (n + 1)).1 = L) := by
    rw [hL.out, hu.out]
    exact list_end _ n _ (fun i hi => by simp [hi]) (by simp)
  rw [← hL.out]
  obtain ⟨N, hNL⟩ : ∃ N, Hid (L.length = N) := ⟨_, (rfl : _ = _)⟩
  have hN5 : N ≤ 4097 := by rw [← hNL.out, hL.out]; exact Nat.le_trans (listN_len _ _) (by omega)
  have hok0 := Lib.hid hok
  obtain ⟨i0, hi0, hz0, hz1, hz2⟩ := info_parts infoRecord
  clear hR hok
  go_enter Try.func13, Try.ntmps13
  go_wp2_with fail
  refine hrep.out.mono ?_
  rintro e w1 ⟨(⟨_, rfl, hSp⟩ | ⟨hno, _⟩), hn1⟩
  · rw [← hu.out] at hSp
    go_wp2_with fail
    refine (runs_ok (w.heap.size + 1) w.heap.size n 0 (.slice none 0 0) u 36 enterCondense1 (fun x => decide (x = 1)) w1 hSp hn (fun x w2 hn2 => Condense1_any x w2) (fun i => decide (i < n) && decide (u i = 1)) (fun i hi => by simp [hi]) (by simp)).mono ?_
    rw [hend.out, hNL.out]
    rintro e w2 ⟨v, rfl, ho, hn2⟩
    have hN := hn1.next hn2
    clear hSp
    obtain ⟨A2, c2, rfl, hc1, hc2, hA2, hcell2⟩ := own_open ho
    have hA2' := Lib.hid hA2
    have hcell2' := Lib.hid hcell2
    clear ho hA2 hcell2
    go_wp2
    go_loopw [23, 8] (fun k o wr => ∃ i : Nat, k = .int .i64 i ∧ i ≤ N ∧ wr.ownsRow w2.heap.size 77 3 o i (rcL (L.take i)) ∧ New w2 wr) (fun k _ _ => N - (intOf k).toNat)
    case atStart => exact ⟨0, rfl, by omega, World.ownsRow_nil _ _ _ _, New.refl _⟩
    case round =>
      obtain ⟨i, rfl, hi, hown, hnw⟩ := hrel
      by_cases hlt : i < N
      · have hiL : i < L.length := by rw [hNL.out]; exact hlt
        obtain ⟨g, rfl, _, hg⟩ := hA2'.out (by omega)
        obtain ⟨q1, q2⟩ := rgL_at L i hiL
        obtain ⟨x, hx⟩ : ∃ x : Int, Hid (x = (((L[i]).1 : Nat) : Int)) := ⟨_, Lib.hid rfl⟩
        obtain ⟨y, hy⟩ : ∃ y : Int, Hid (y = (((L[i]).2 : Nat) : Int)) := ⟨_, Lib.hid rfl⟩
        rw [← hx.out] at q1
        rw [← hy.out] at q2
        have c0 := (hnw.cell (p := ⟨g, i * 2, none⟩) hg).trans (hcell2'.out g rfl (i * 2) _ q1)
        have c1 := (hnw.cell (p := ⟨g, i * 2 + 1, none⟩) hg).trans (hcell2'.out g rfl (i * 2 + 1) _ q2)
        have hnx : Hid (rcL (L.take (i + 1)) = rcL (L.take i) ++ [.bool false, .int .i64 x, .int .i64 y]) := by
          rw [List.take_succ_eq_append_getElem hiL, rcL_app, hx.out, hy.out]; exact (rfl : _ = _)
        clear q1 q2 hx hy hiL
        have i1 : (i : Int) < (N : Int) := by omega
        have hwl := hnw.size
        go_wp2_with (at_builtin; refine wpList_append_own _ rfl _ _ 22 rfl w2.heap.size 77 i0 _ 3 24 Try.underlying22 hi0 hz0 hz1 hz2 rfl (by decide) _ i (rcL (L.take i)) rfl ((hown.alloc _).alloc _) ⟨wr.heap.size + 1, 0, none⟩ 1 1 [.bool false, .int .i64 x, .int .i64 y] rfl rfl (World.news_of_block (cs := #[.bool _, .int .i64 _, .int .i64 _]) (t := 77) (fr := (0, 0)) (by have := heap_alloc_new (wr.alloc (.cells #[.int .i64 x, .int .i64 y] 75)) (.cells #[.bool false, .int .i64 x, .int .i64 y] 77); simpa using this)) (by simp [Value.oneCell']) (by unfold maxLen; omega) (by omega) (by simp; omega) ?_; intro v3 w3 hown3 hgrow hnil)
        have hN3 : New w2 w3 := (hnw.alloc _).append' hgrow fun g hg => (hown.lt _ hg).1
        have hown4 : Hid (w3.ownsRow w2.heap.size 77 3 v3 (i + 1) (rcL (L.take (i + 1)))) := by rw [hnx.out]; exact hown3
        clear hown3 hgrow hnil hown
        go_wp2
        go_roundw
        case rel => exact ⟨i + 1, by go_num, by omega, hown4.out, hN3⟩
        case measure => simp [intOf]; omega
      · have hin : i = N := by omega
        have hfull : Hid (wr.ownsRow w.heap.size 77 3 u8 N (rcL L)) := by
          have := hown.mono hN.size
          rw [hin, ← hNL.out, List.take_length, hNL.out] at this
          exact this
        clear hown
        go_wp2
        go_ret2
        exact ⟨_, rfl, by rw [hNL.out]; exact hfull.out, hN.next hnw⟩
  · exact absurd hok0.out hno
theorem Condense_no (n m c : Nat) (A : Option Addr) (B : Nat → Bool) (F T : Nat → Int) (w : World) (h1 : 1 ≤ n) (hn : n ≤ 4096) (hm : m ≤ 4096) (hR : RdR w A m B F T) (hok : ¬ okAll n B F T m) :
    Calls Try.prog 13 #[.int .i64 n, .slice A m c] w (AnsC 4 [] w) := by
  have hrep := Lib.hid (replayed_ok n m c A B F T w h1 hn hm hR)
  have hok0 := Lib.hid hok
  clear hR hok
  go_enter Try.func13, Try.ntmps13
  go_wp2_with fail
  refine hrep.out.mono ?_
  rintro e w1 ⟨(⟨hyes, _⟩ | ⟨_, rfl⟩), hn1⟩
  · exact absurd hyes hok0.out
  · go_wp2
    go_ret2
    exact ansNilC 4 hn1
theorem Condense_code (cd : Int) (hc : cd = 1 ∨ cd = 2) (n : Int) (v : Value) (w : World) (h : Calls Try.prog 31 #[.int .i64 n, v] w fun e w' => e = .returned (.tuple #[.pointer none, .int .i64 cd]) ∧ w = w') :
    Calls Try.prog 13 #[.int .i64 n, v] w (AnsC cd [] w) := by
  have h0 := Lib.hid h
  clear h
  have hcb : (cd != 0) = true := by simp; omega
  have hcn : cd ≠ 0 := by omega
  go_enter Try.func13, Try.ntmps13
  go_wp2_with fail
  refine h0.out.mono ?_
  rintro e w1 ⟨rfl, rfl⟩
  go_wp2
  go_ret2
  exact ansNilC cd (New.refl _)
theorem SpaceCondensed_code (cd : Int) (hc : cd = 1 ∨ cd = 2) (n : Int) (v : Value) (w : World) (h : Calls Try.prog 34 #[.int .i64 n, v] w fun e w' => e = .returned (.tuple #[.slice none 0 0, .int .i64 cd]) ∧ w = w') :
    Calls Try.prog 14 #[.int .i64 n, v] w (AnsC cd [] w) := by
  have h0 := Lib.hid h
  clear h
  have hcb : (cd != 0) = true := by simp; omega
  have hcn : cd ≠ 0 := by omega
  go_enter Try.func14, Try.ntmps14
  go_wp2_with fail
  refine h0.out.mono ?_
  rintro e w1 ⟨rfl, rfl⟩
  go_wp2
  go_ret2
  exact ansNilC cd (New.refl _)
theorem SpaceCondensed_no (n m c : Nat) (A : Option Addr) (B : Nat → Bool) (F T : Nat → Int) (w : World) (h1 : 1 ≤ n) (hn : n ≤ 4096) (hm : m ≤ 4096) (hR : RdR w A m B F T) (hok : ¬ okAll n B F T m) :
    Calls Try.prog 14 #[.int .i64 n, .slice A m c] w (AnsC 4 [] w) := by
  have hrep := Lib.hid (spaceAgain_ok n m c A B F T w h1 hn hm hR)
  have hok0 := Lib.hid hok
  clear hR hok
  go_enter Try.func14, Try.ntmps14
  go_wp2_with fail
  refine hrep.out.mono ?_
  rintro e w1 ⟨(⟨hyes, _⟩ | ⟨_, rfl⟩), hn1⟩
  · exact absurd hyes hok0.out
  · go_wp2
    go_ret2
    exact ansNilC 4 hn1
theorem SpaceCondensed_ok (n m c : Nat) (A : Option Addr) (B : Nat → Bool) (F T : Nat → Int) (w : World) (h1 : 1 ≤ n) (hn : n ≤ 4096) (hm : m ≤ 4096) (hR : RdR w A m B F T) (hok : okAll n B F T m) :
    Calls Try.prog 14 #[.int .i64 n, .slice A m c] w (AnsC 0 (takenL n m B F T) w) := by
  have hrep := Lib.hid (spaceAgain_ok n m c A B F T w h1 hn hm hR)
  obtain ⟨L, hL⟩ : ∃ L, Hid (L = takenL n m B F T) := ⟨_, (rfl : _ = _)⟩
  obtain ⟨u, hu⟩ : ∃ u, Hid (u = uAt B F T m) := ⟨_, (rfl : _ = _)⟩
  have hend : Hid (listN (fun i => decide (u i = 1)) n = L) := by rw [hL.out, hu.out]; exact (rfl : _ = _)
  rw [← hL.out]
  obtain ⟨N, hNL⟩ : ∃ N, Hid (L.length = N) := ⟨_, (rfl : _ = _)⟩
  have hN5 : N ≤ 4097 := by rw [← hNL.out, hL.out]; exact Nat.le_trans (listN_len _ _) (by omega)
  have hok0 := Lib.hid hok
  obtain ⟨i0, hi0, hz0, hz1, hz2⟩ := info_parts infoRecord
  clear hR hok
  go_enter Try.func14, Try.ntmps14
  go_wp2_with fail
  refine hrep.out.mono ?_
  rintro e w1 ⟨(⟨_, rfl, hSp⟩ | ⟨hno, _⟩), hn1⟩
  · rw [← hu.out] at hSp
    go_wp2_with fail
    refine (stretches_ok w.heap.size n 1 u w1 hSp hn).mono ?_
    rw [hend.out, hNL.out]
    rintro e w2 ⟨v, rfl, ho, hn2⟩
    have hN := hn1.next hn2
    clear hSp
    obtain ⟨A2, c2, rfl, hc1, hc2, hA2, hcell2⟩ := own_open ho
    have hA2' := Lib.hid hA2
    have hcell2' := Lib.hid hcell2
    clear ho hA2 hcell2
    go_wp2
    go_loopw [23, 8] (fun k o wr => ∃ i : Nat, k = .int .i64 i ∧ i ≤ N ∧ wr.ownsRow w2.heap.size 77 3 o i (rcL (L.take i)) ∧ New w2 wr) (fun k _ _ => N - (intOf k).toNat)
    case atStart => exact ⟨0, rfl, by omega, World.ownsRow_nil _ _ _ _, New.refl _⟩
    case round =>
      obtain ⟨i, rfl, hi, hown, hnw⟩ := hrel
      by_cases hlt : i < N
      · have hiL : i < L.length := by rw [hNL.out]; exact hlt
        obtain ⟨g, rfl, _, hg⟩ := hA2'.out (by omega)
        obtain ⟨q1, q2⟩ := rgL_at L i hiL
        obtain ⟨x, hx⟩ : ∃ x : Int, Hid (x = (((L[i]).1 : Nat) : Int)) := ⟨_, Lib.hid rfl⟩
        obtain ⟨y, hy⟩ : ∃ y : Int, Hid (y = (((L[i]).2 : Nat) : Int)) := ⟨_, Lib.hid rfl⟩
        rw [← hx.out] at q1
        rw [← hy.out] at q2
        have c0 := (hnw.cell (p := ⟨g, i * 2, none⟩) hg).trans (hcell2'.out g rfl (i * 2) _ q1)
        have c1 := (hnw.cell (p := ⟨g, i * 2 + 1, none⟩) hg).trans (hcell2'.out g rfl (i * 2 + 1) _ q2)
        have hnx : Hid (rcL (L.take (i + 1)) = rcL (L.take i) ++ [.bool false, .int .i64 x, .int .i64 y]) := by
          rw [List.take_succ_eq_append_getElem hiL, rcL_app, hx.out, hy.out]; exact (rfl : _ = _)
        clear q1 q2 hx hy hiL
        have i1 : (i : Int) < (N : Int) := by omega
        have hwl := hnw.size
        go_wp2_with (at_builtin; refine wpList_append_own _ rfl _ _ 22 rfl w2.heap.size 77 i0 _ 3 24 Try.underlying22 hi0 hz0 hz1 hz2 rfl (by decide) _ i (rcL (L.take i)) rfl ((hown.alloc _).alloc _) ⟨wr.heap.size + 1, 0, none⟩ 1 1 [.bool false, .int .i64 x, .int .i64 y] rfl rfl (World.news_of_block (cs := #[.bool _, .int .i64 _, .int .i64 _]) (t := 77) (fr := (0, 0)) (by have := heap_alloc_new (wr.alloc (.cells #[.int .i64 x, .int .i64 y] 75)) (.cells #[.bool false, .int .i64 x, .int .i64 y] 77); simpa using this)) (by simp [Value.oneCell']) (by unfold maxLen; omega) (by omega) (by simp; omega) ?_; intro v3 w3 hown3 hgrow hnil)
        have hN3 : New w2 w3 := (hnw.alloc _).append' hgrow fun g hg => (hown.lt _ hg).1
        have hown4 : Hid (w3.ownsRow w2.heap.size 77 3 v3 (i + 1) (rcL (L.take (i + 1)))) := by rw [hnx.out]; exact hown3
        clear hown3 hgrow hnil hown
        go_wp2
        go_roundw
        case rel => exact ⟨i + 1, by go_num, by omega, hown4.out, hN3⟩
        case measure => simp [intOf]; omega
      · have hin : i = N := by omega
        have hfull : Hid (wr.ownsRow w.heap.size 77 3 u8 N (rcL L)) := by
          have := hown.mono hN.size
          rw [hin, ← hNL.out, List.take_length, hNL.out] at this
          exact this
        clear hown
        go_wp2
        go_ret2
        exact ⟨_, rfl, by rw [hNL.out]; exact hfull.out, hN.next hnw⟩
  · exact absurd hok0.out hno
theorem sameRecords_eq (L : List (Nat × Nat)) (hn : L.length ≤ 4097) (v v' : Value) (b b' : Nat) (w : World) (h : w.ownsRow b 77 3 v L.length (rcL L)) (h' : w.ownsRow b' 77 3 v' L.length (rcL L)) :
    Calls Try.prog 15 #[v, v'] w fun e w' => e = .returned (.bool true) ∧ New w w' := by
  obtain ⟨A, c, rfl, hc1, hc2, hA, hcell⟩ := own_open h
  obtain ⟨A', c', rfl, hc1', hc2', hA', hcell'⟩ := own_open h'
  have hcl := Lib.hid hcell
  have hcl' := Lib.hid hcell'
  have hA1 := Lib.hid hA
  have hA1' := Lib.hid hA'
  obtain ⟨n, hnL⟩ : ∃ n, Hid (L.length = n) := ⟨_, (rfl : _ = _)⟩
  rw [hnL.out] at hn hc1 hc1' ⊢
  clear hcell hcell' hA hA' h h'
  go_enter Try.func15, Try.ntmps15
  go_wp2
  go_loopw [5] (fun k wr => ∃ i : Nat, k = .int .i64 i ∧ i ≤ n ∧ New w wr) (fun k _ => n - (intOf k).toNat)
  case atStart => exact ⟨0, rfl, by omega, New.refl w⟩
  case round =>
    obtain ⟨i, rfl, hi, hnw⟩ := hrel
    by_cases hlt : i < n
    · have hiL : i < L.length := by rw [hnL.out]; exact hlt
      obtain ⟨g, rfl, _, hg⟩ := hA1.out (by omega)
      obtain ⟨g', rfl, _, hg'⟩ := hA1'.out (by omega)
      obtain ⟨q0, q1, q2⟩ := rcL_at L i hiL
      generalize (((L[i]).1 : Nat) : Int) = x at q1
      generalize (((L[i]).2 : Nat) : Int) = y at q2
      have c0 := (hnw.cell (p := ⟨g, i * 3, none⟩) hg).trans (hcl.out g rfl (i * 3) _ q0)
      have c1 := (hnw.cell (p := ⟨g, i * 3 + 1, none⟩) hg).trans (hcl.out g rfl (i * 3 + 1) _ q1)
      have c2 := (hnw.cell (p := ⟨g, i * 3 + 2, none⟩) hg).trans (hcl.out g rfl (i * 3 + 2) _ q2)
      have d0 := (hnw.cell (p := ⟨g', i * 3, none⟩) hg').trans (hcl'.out g' rfl (i * 3) _ q0)
      have d1 := (hnw.cell (p := ⟨g', i * 3 + 1, none⟩) hg').trans (hcl'.out g' rfl (i * 3 + 1) _ q1)
      have d2 := (hnw.cell (p := ⟨g', i * 3 + 2, none⟩) hg').trans (hcl'.out g' rfl (i * 3 + 2) _ q2)
      clear q0 q1 q2 hiL
      have i0 : (0 : Int) ≤ (i : Int) := by omega
      have i1 : (i : Int) < (n : Int) := by omega
      go_wp2
      go_quiet (fail)
      go_wp2
      go_roundw
      case rel => exact ⟨i + 1, by go_num, by omega, hnw.drewN _⟩
      case measure => simp [intOf]; omega
    · have hin : i = n := by omega
      subst hin
      go_wp2
      go_ret
      exact ⟨rfl, hnw⟩
end Go.Proofs.Ythjjchlibbheaaa.space
