/-
  slices.Collect over comb.Each: all picks, collected.
-/
import Derived.Test.YtpknpmmcploacaaEachWalk
import Derived.Test.YtpknpmmcploacaaCombAt
namespace Go.Proofs.Ytpknpmmcploacaa.comb
open Go.ChangeShapes Go.WideShapes Go.ChangeAt Go.RowKit Go.Proofs.Ytpknpmmcploacaa.kit Go.Proofs.Ytpknpmmcploacaa.each Go.Deep
set_option linter.unusedVariables false
attribute [local go_sem] Oper.semAt_some

/-- what has been collected -/
def Coll (w : World) (Bs lo : Nat) (pre : List (List Nat)) (W : World) : Prop :=
  ∃ v vals, Boxed W Bs 53 v ∧ W.ownsRow (lo + 6) 24 1 v pre.length vals ∧ All2 (fun v x => ArgI (lo + 6) x v W) vals pre ∧ Below w.heap.size w W
theorem ownKept {W W' : World} {base n s : Nat} {e : TypeId} {v : Value} {xs : List Value} {row : Option Nat} (h : W.ownsRow base e s v n xs) (hg : W.grownBy W' row) (hr : ∀ r, row = some r → r < base) : W'.ownsRow base e s v n xs := by
  refine World.ownsRow.kept h hg ?_
  by_cases hv : v.ownBlock = none
  · exact .inl hv
  · refine .inr fun e => ?_
    obtain ⟨g, hg⟩ := Option.ne_none_iff_exists'.1 hv
    have h1 := (h.lt g hg).1
    have h2 := hr g (by rw [← e, hg])
    omega
theorem ArgI.apart {W W' : World} {B b s n : Nat} {e : TypeId} {v v' : Value} {x : List Nat} {xs : List Value} (h : ArgI B x v W) (h' : W.ownsRow b e s v' n xs) (hne : 3 ≠ e) (hg : W.grownBy W' v'.ownBlock) : ArgI B x v W' := by
  refine World.ownsRow.kept h hg ?_
  by_cases hv : v.ownBlock = none
  · exact .inl hv
  · exact .inr (own_ne h h' hne hv)
theorem ArgI.one {W : World} {B : Nat} {x : List Nat} {v : Value} (h : ArgI B x v W) : v.oneCell' = true := by
  rcases h.2 with ⟨rfl, _⟩ | ⟨g, cap, cur, rfl, _⟩ <;> rfl
theorem Coll.bears {w : World} {Bs lo : Nat} (hB : Bs < lo) (hw : w.heap.size ≤ lo) : Bears lo (lo + 6) (Coll w Bs lo) := by
  rintro s W W' row ⟨v, vals, h1, h2, h3, h4⟩ hg hr
  refine ⟨v, vals, h1.kept hg (fun e => by have := hr _ e.symm; omega), ownKept h2 hg (fun r e => by have := hr r e; omega), h3.imp fun v x h => ownKept h hg (fun r e => by have := hr r e; omega), ?_⟩
  exact h4.grown hg h4.size (fun k e => by have := hr k e; omega)
set_option maxHeartbeats 2000000 in
theorem AppendSeq_each (n k bn bk : Nat) (w : World) (hn : n ≤ 12) (hk : k ≤ n) (hbn : Boxed w bn 3 (.int .i64 n)) (hbk : Boxed w bk 3 (.int .i64 k)) :
    Calls Try.prog 55 #[.slice none 0 0, .func (.func 56) #[] (eachLb bn bk)] w fun e w' => ∃ v vals, e = .returned v ∧ w'.ownsRow w.heap.size 24 1 v (pickL n 0 k).length vals ∧ All2 (fun v x => ArgI w.heap.size x v w') vals (pickL n 0 k) ∧ New w w' := by
  have hdd : ∀ k : Nat, (Fence.wide.depth.isSome = true → 1 ≤ k) := fun k h => by rw [wide_depth] at h; cases h
  obtain ⟨i1, hj0, hy0, hy1, hy2⟩ := info_parts info30
  obtain ⟨S, hS⟩ : ∃ S, Hid (S = pickL n 0 k) := ⟨_, rfl⟩
  have hSl : S.length ≤ 4096 := by rw [hS.out]; exact Nat.le_trans (pickL_size n 0 k) (Nat.pow_le_pow_right (by omega) hn)
  have hst := each_stops (m := 3) n k bn bk w hn hk hbn hbk
  rw [← hS.out] at hst ⊢
  have hstH := Lib.hid hst
  have hbn0 := hbn.lt
  have hbk0 := hbk.lt
  clear hst hbn hbk
  refine (callsIn_wide (n := 3)).1 ?_
  refine callsIn_of_wp_marks Try.func55 rfl trivial ?_ rfl; simp only [Try.ntmps55, List.size_toArray, List.length_cons, List.length_nil, Nat.reduceAdd, Nat.reduceSub, Array.replicate_succ, Array.replicate_zero, List.push_toArray, List.append_toArray, List.nil_append, List.cons_append]
  gi_wp2_with fail
  refine wpIn_each (gf := 56) (lb := eachLb bn bk) rfl (enters_of Try.func56 (by kernel_rfl) rfl) hstH.out ((Below.refl _ _).alloc (Nat.le_refl _) _) (fun k hk => by rcases hk with rfl | rfl <;> (simp; omega)) (ArgI.kept 4)
    (Coll w w.heap.size (w.heap.size + 1)) (fun _ _ _ => False) ?bears (fun c s W W' row h => h.elim) ?start (fun v => { tmps := #[.slice none 0 0, .func (.func 56) #[] (eachLb bn bk), .pointer (some ⟨w.heap.size, 0, none⟩), undef, .slice none 0 0, v, .func (.func 56) #[] (eachLb bn bk), v, undef, undef, undef, undef, undef], defers := [] }) ?assign ?body ?done ?stop
  case bears =>
    rw [World.size_alloc]
    exact Coll.bears (Nat.lt_succ_self _) (Nat.le_succ _)
  case start => exact ⟨_, [], Boxed.new w _ _, World.ownsRow_nil _ _ _ _, ⟨rfl, fun i x y hx => by simp at hx⟩, (Below.refl _ _).alloc (Nat.le_refl _) _⟩
  case assign =>
    intro l v W K hK
    gi_wp2
    exact hK
  case stop =>
    intro c pre W _ h
    exact h.elim
  case body =>
    rintro l pre x v W hsz ⟨sv, vals, hb, ho, ha, hbel⟩ hpre harg
    rw [World.size_alloc] at hsz harg ⊢
    have hpl : pre.length + 1 ≤ 4096 := by have := hpre.length_le; simp at this; omega
    have hargH := Lib.hid harg
    obtain ⟨A, c, rfl, _⟩ := own_open harg
    obtain ⟨A2, c2, rfl, _⟩ := own_open ho
    have hone := harg.one
    have hcb := hb.cell
    have hhid := Lib.hid (And.intro ha hbel)
    have hbH := Lib.hid hb
    clear harg ha hbel hb
    gi_wp2_with (first
      | (gi_at_builtin; refine wpListIn_append_own _ rfl _ _ 53 rfl (w.heap.size + 1 + 6) 24 i1 _ 1 24 Try.underlying53 hj0 hy0 hy1 hy2 rfl (by decide) _ pre.length vals rfl (ho.alloc _) ⟨W.heap.size, 0, none⟩ 1 1 [.slice A x.length c] rfl rfl (World.news_of_block (cs := #[.slice _ _ _]) (t := 24) (fr := (0, 0)) (heap_alloc_new W _)) (by simp [Value.oneCell']) (by unfold maxLen; omega) (by omega) (by simp; omega) ?_
         intro v1 w1 hown1 hgrow1 hnil1
         obtain ⟨g1, c1, rfl, hg1a, hg1b⟩ := hown1.form (by omega)
         have hb2 : Boxed w1 w.heap.size 53 (.slice A2 pre.length c2) := (hbH.out.alloc _).kept hgrow1 (fun e => by have := (ho.lt _ e.symm).1; omega)
         have e1 := hb2.cell; have e2 := hb2.frozen)
      | fail)
    have hgs : w1.grownBy (w1.setCell ⟨w.heap.size, 0, none⟩ (.slice (some ⟨g1, 0, none⟩) (pre.length + 1) c1)) (some w.heap.size) := grownBy_setCell' _ _ _
    have hro : ∀ r, (Value.slice A2 pre.length c2).ownBlock = some r → w.heap.size + 1 + 6 ≤ r := fun r e => (ho.lt _ e).1
    refine ⟨((Held.grown (World.grownBy_alloc W _ none) (fun r e => by cases e)).trans (Held.grown hgrow1 fun r e => ?_)).trans (Held.grown hgs fun r e => ?_), ?_⟩
    · have := hro r e
      exact ⟨fun h => by rcases h with rfl | rfl <;> omega, by omega⟩
    · cases e
      exact ⟨fun h => by rcases h with h | h <;> omega, by omega⟩
    · refine ⟨_, _, hb2.set _, by rw [List.length_append]; exact ownKept hown1 hgs (fun r e => by cases e; omega), ?_, ?_⟩
      · refine All2.append (hhid.out.1.imp fun v x h => ?_) (All2.one ?_)
        · exact ownKept (ArgI.apart (h.alloc _) (ho.alloc _) (by decide) hgrow1) hgs (fun r e => by cases e; omega)
        · exact ownKept (ArgI.apart (hargH.out.alloc _) (ho.alloc _) (by decide) hgrow1) hgs (fun r e => by cases e; omega)
      · have h1 := hhid.out.2.alloc (by have := hhid.out.2.size; omega) (.cells #[.slice A x.length c] 24)
        have h2 := h1.grown hgrow1 (by have := h1.size; omega) (fun r e => by have := hro r e; omega)
        exact h2.setCell (p := ⟨w.heap.size, 0, none⟩) (Nat.le_refl _) _
  case done =>
    rintro W ⟨sv, vals, hb, ho, ha, hbel⟩ hK
    rw [World.size_alloc] at hK ⊢
    obtain ⟨A2, c2, rfl, _⟩ := own_open ho
    have hcb := hb.cell
    have hg := grownBy_putObj' W (w.heap.size + 1) (.deferred none)
    have hfin : Hid ((W.putObj (w.heap.size + 1) (.deferred none)).ownsRow w.heap.size 24 1 (.slice A2 S.length c2) S.length vals ∧ All2 (fun v x => ArgI w.heap.size x v (W.putObj (w.heap.size + 1) (.deferred none))) vals S ∧ New w (W.putObj (w.heap.size + 1) (.deferred none))) :=
      ⟨(ownKept ho hg (fun r e => by cases e; omega)).mono (by omega), ha.imp fun v x h => (ownKept h hg (fun r e => by cases e; omega)).mono (by omega), hbel.grown hg hbel.size (fun k e => by cases e; omega)⟩
    clear ha hbel hg ho hb
    gi_wp2
    refine ⟨by simp, .inl ⟨_, _, rfl, run_takeDeferred hK, ?_⟩⟩
    exact ⟨.slice A2 S.length c2, (by simp [results, Try.results55, go_sem]), .slice A2 S.length c2, vals, rfl, hfin.out.1, hfin.out.2.1, hfin.out.2.2⟩
/-- rows of rows of one's own, read -/
theorem coll_rdM {w : World} {base : Nat} {v : Value} {vals : List Value} {S : List (List Nat)} (h : w.ownsRow base 24 1 v S.length vals) (ha : All2 (fun v x => ∃ B, ArgI B x v w) vals S) :
    ∃ A c R C, v = .slice A S.length c ∧ RdM .i64 w A S.length R (fun i => (S.getD i []).length) C (fun i j => ((S.getD i []).getD j 0 : Nat)) := by
  obtain ⟨A, c, rfl, h1, h2, h3, h4⟩ := own_open h
  have hrow : ∀ i, ∃ R C, i < S.length → vals[i]? = some (.slice R (S.getD i []).length C) ∧ RdI .i64 w R (S.getD i []).length (fun j => ((S.getD i []).getD j 0 : Nat)) ∧ (S.getD i []).length ≤ C ∧ C ≤ maxLen := fun i => by
    by_cases hi : i < S.length
    · have hv : vals[i]? = some (vals[i]'(by rw [ha.1]; exact hi)) := List.getElem?_eq_getElem _
      have hs : S[i]? = some S[i] := List.getElem?_eq_getElem hi
      obtain ⟨B, hB⟩ := ha.2 i _ _ hv hs
      obtain ⟨R, C, he, hR⟩ := own_rdN hB
      obtain ⟨_, _, he2, hle, hlm, _⟩ := own_open hB
      rw [he] at he2
      cases he2
      have hd : S.getD i [] = S[i] := by simp [List.getD, hi]
      rw [he] at hv
      rw [← hd] at hv hR hle
      exact ⟨R, C, fun _ => ⟨hv, hR, hle, hlm⟩⟩
    · exact ⟨none, 0, fun h => absurd h hi⟩
  refine ⟨A, c, fun i => (hrow i).choose, fun i => (hrow i).choose_spec.choose, rfl, by omega, fun h0 => ?_, fun i hi => ?_⟩
  · obtain ⟨g, rfl, _, hg⟩ := h3 h0
    refine ⟨g, 0, rfl, hg, fun i hi => ?_⟩
    have := h4 g rfl i _ ((hrow i).choose_spec.choose_spec hi).1
    simpa using this
  · exact ((hrow i).choose_spec.choose_spec hi).2
theorem sameMatrix_eq (A B : Option Addr) (n c d : Nat) (R R' : Nat → Option Addr) (L L' C C' : Nat → Nat) (Y Z : Nat → Nat → Int) (w : World) (hY : RdM .i64 w A n R L C Y) (hZ : RdM .i64 w B n R' L' C' Z)
    (he : ∀ i, i < n → L i = L' i ∧ Y i = Z i) :
    Calls Try.prog 36 #[.slice A n c, .slice B n d] w fun e w' => e = .returned (.bool true) ∧ New w w' := by
  have hm := hY.1
  unfold maxLen at hm
  have he1 := Lib.hid he
  have hY1 := Lib.hid hY
  have hZ1 := Lib.hid hZ
  clear he hY hZ
  go_enter Try.func36, Try.ntmps36
  go_wp2
  go_loopw [5] (fun k wr => ∃ i : Nat, k = .int .i64 i ∧ i ≤ n ∧ New w wr) (fun k _ => n - (intOf k).toNat)
  case atStart => exact ⟨0, rfl, by omega, New.refl w⟩
  case round =>
    obtain ⟨i, rfl, hi, hnw⟩ := hrel
    by_cases hlt : i < n
    · obtain ⟨b, off, rfl, hb, hcs⟩ := hY1.out.2.1 (by omega)
      obtain ⟨b', off', rfl, hb', hcs'⟩ := hZ1.out.2.1 (by omega)
      have c0 := (hnw.cell hb).trans (hcs i hlt)
      have c1 := (hnw.cell hb').trans (hcs' i hlt)
      have r0 := Lib.hid ((hY1.out.2.2 i hlt).1.new hnw)
      have r1 := Lib.hid ((hZ1.out.2.2 i hlt).1.new hnw)
      obtain ⟨hl, hv⟩ := he1.out i hlt
      rw [← hv] at r1
      rw [← hl] at c1 r1
      have hnw1 := Lib.hid hnw
      clear hcs hcs' hl hv hnw
      have k0 := NewW.keep c0
      have k1 := NewW.keep c1
      have hs : Hid (∀ w', New wr w' → Calls Try.prog 31 #[.slice (R i) (L i) (C i), .slice (R' i) (L i) (C' i)] w' fun e w'' => e = .returned (.bool true) ∧ New w' w'') := fun w' hn => sameInts_eq _ _ _ _ _ _ _ (r0.out.new hn) (r1.out.new hn)
      have a1 : (i : Int) < (n : Int) := by omega
      have a3 : (0 : Int) ≤ (i : Int) := by omega
      go_wp2
      (refine wp_region_quiet_new (by kernel_rfl) (by kernel_rfl) ?_; (repeat (first | go_big_quiet_step (first | (go_at_call 31; exact NewW.call _ (hs.out _ (NewW.is _)))) | quiet_step (first | (go_at_call 31; exact NewW.call _ (hs.out _ (NewW.is _)))))); refine wpQuiet_nil ?_; rintro W2 ⟨⟨_, hn_W2⟩, rfl⟩)
      go_wp2
      go_roundw
      case rel => exact ⟨i + 1, by go_num, by omega, hnw1.out.next hn_W2⟩
      case measure => simp [intOf]; omega
    · have hin : i = n := by omega
      subst hin
      go_wp2
      go_ret
      exact ⟨rfl, hnw⟩
theorem Collect_each (n k bn bk : Nat) (w : World) (hn : n ≤ 12) (hk : k ≤ n) (hbn : Boxed w bn 3 (.int .i64 n)) (hbk : Boxed w bk 3 (.int .i64 k)) :
    Calls Try.prog 52 #[.func (.func 56) #[] (eachLb bn bk)] w fun e w' => ∃ v vals, e = .returned v ∧ w'.ownsRow w.heap.size 24 1 v (pickL n 0 k).length vals ∧ All2 (fun v x => ArgI w.heap.size x v w') vals (pickL n 0 k) ∧ New w w' := by
  have hc := Lib.hid (AppendSeq_each n k bn bk w hn hk hbn hbk)
  clear hbn hbk
  go_enter Try.func52, Try.ntmps52
  go_wp2_with fail
  refine hc.out.mono ?_
  rintro e w1 ⟨v, vals, rfl, ho, ha, hn1⟩
  have hfin := Lib.hid (And.intro ho (And.intro ha hn1))
  clear ho ha hn1
  go_wp2
  go_ret
  exact ⟨v, vals, rfl, hfin.out.1, hfin.out.2.1, hfin.out.2.2⟩
def CollP (S : List (List Nat)) (w : World) (e : Ending) (w' : World) : Prop :=
  ∃ A c R C, e = .returned (.tuple #[.slice A S.length c, .int .i64 0]) ∧ RdM .i64 w' A S.length R (fun i => (S.getD i []).length) C (fun i j => ((S.getD i []).getD j 0 : Nat)) ∧ New w w'
theorem All_ok (n k : Nat) (w : World) (hn : n ≤ 12) (hk : k ≤ n) : Calls Try.prog 34 #[.int .i64 n, .int .i64 k] w (CollP (pickL n 0 k) w) := by
  have hd : decide (combP n k) = true := decide_eq_true (by unfold combP; omega)
  have hc := Lib.hid (fun h1 h2 => Collect_each n k w.heap.size (w.heap.size + 1) ((w.alloc (.cells #[.int .i64 n] 3)).alloc (.cells #[.int .i64 k] 3)) hn hk h1 h2)
  go_enter Try.func34, Try.ntmps34
  go_wp2_with fail
  refine (fine_any _ _ _).mono ?_
  rw [hd]
  rintro e w1 ⟨rfl, rfl⟩
  go_wp2_with fail
  refine (Each_any _ _ _).mono ?_
  rintro e w1 ⟨rfl, rfl⟩
  go_wp2_with fail
  refine (hc.out ((Boxed.new w _ _).alloc _) (by have := Boxed.new (w.alloc (.cells #[.int .i64 (n : Int)] 3)) 3 (.int .i64 k); simpa using this)).mono ?_
  rintro e w2 ⟨v, vals, rfl, ho, ha, hn2⟩
  obtain ⟨A, c, R, C, rfl, hM⟩ := coll_rdM ho (ha.imp fun v x h => ⟨_, h⟩)
  have hN := (((New.refl w).alloc (.cells #[.int .i64 (n : Int)] 3)).alloc (.cells #[.int .i64 (k : Int)] 3)).next hn2
  have hfin := Lib.hid (And.intro hM hN)
  clear ho ha hM hN hn2
  go_wp2
  go_ret2
  exact ⟨A, c, R, C, rfl, hfin.out.1, hfin.out.2⟩
theorem CombAll_ok (n k : Nat) (w : World) (hn : n ≤ 12) (hk : k ≤ n) : Calls Try.prog 35 #[.int .i64 n, .int .i64 k] w (CollP (pickL n 0 k) w) := by
  have hd : decide (combP n k) = true := decide_eq_true (by unfold combP; omega)
  have hpk : Hid (∀ w, Calls Try.prog 51 #[.int .i64 0, .int .i64 n, .int .i64 k] w (PickP n 0 k w)) := fun w => picks_ok n 0 k n (by omega) hn (by omega) w
  go_enter Try.func35, Try.ntmps35
  go_wp2_with fail
  refine (pickRange_any _ _ _).mono ?_
  rw [hd]
  rintro e w1 ⟨rfl, rfl⟩
  go_wp2_with fail
  refine (hpk.out _).mono ?_
  rintro e w1 ⟨v1, vals1, rfl, ho1, ha1, hn1⟩
  obtain ⟨A, c, R, C, rfl, hM⟩ := coll_rdM ho1 (ha1.imp fun v x h => by obtain ⟨b, g, cp, _, ho⟩ := h; exact ⟨b, ho⟩)
  have hfin := Lib.hid (And.intro hM hn1)
  clear ho1 ha1 hM hn1
  go_wp2
  go_ret2
  exact ⟨A, c, R, C, rfl, hfin.out.1, hfin.out.2⟩
theorem All_bad (n k : Int) (w : World) (h : ¬ combP n k) :
    Calls Try.prog 34 #[.int .i64 n, .int .i64 k] w fun e w' => e = .returned (.tuple #[.slice none 0 0, .int .i64 2]) ∧ w = w' := by
  have hd : decide (combP n k) = false := decide_eq_false h
  clear h
  go_enter Try.func34, Try.ntmps34
  go_wp2_with fail
  refine (fine_any _ _ _).mono ?_
  rw [hd]
  rintro e w1 ⟨rfl, rfl⟩
  go_wp2
  go_ret2
  exact ⟨rfl, rfl⟩
theorem CombAll_bad (n k : Int) (w : World) (h : ¬ combP n k) :
    Calls Try.prog 35 #[.int .i64 n, .int .i64 k] w fun e w' => e = .returned (.tuple #[.slice none 0 0, .int .i64 2]) ∧ w = w' := by
  have hd : decide (combP n k) = false := decide_eq_false h
  clear h
  go_enter Try.func35, Try.ntmps35
  go_wp2_with fail
  refine (pickRange_any _ _ _).mono ?_
  rw [hd]
  rintro e w1 ⟨rfl, rfl⟩
  go_wp2
  go_ret2
  exact ⟨rfl, rfl⟩
theorem nil_rdM (w : World) : RdM .i64 w none 0 (fun _ => none) (fun _ => 0) (fun _ => 0) (fun _ _ => 0) := ⟨Nat.zero_le _, fun h => absurd h (Nat.lt_irrefl 0), fun i h => absurd h (Nat.not_lt_zero _)⟩
end Go.Proofs.Ytpknpmmcploacaa.comb
