/-
  comb.Each: the inner function walk, by induction on how many numbers are still to be picked; the iterator's word.
-/
import Derived.Test.YtpknpmmcploacaaEachComb
namespace Go.Proofs.Ytpknpmmcploacaa.comb
open Go.ChangeShapes Go.WideShapes Go.ChangeAt Go.RowKit Go.Proofs.Ytpknpmmcploacaa.kit Go.Proofs.Ytpknpmmcploacaa.each Go.Deep
set_option linter.unusedVariables false
attribute [local go_sem] Oper.semAt_some

def EndsB (P : Bool → World → Prop) (e : Ending) (w : World) : Prop := ∃ b : Bool, e = .returned (.bool b) ∧ P b w
/-- what the rounds promise -/
def Rounds (m l B bn bk : Nat) (S : List (List Nat)) (J Jx : List (List Nat) → World → Prop) : Prop :=
  ∀ pre x v W1, J pre W1 → pre ++ [x] <+: S → ArgI (B + 4) x v W1 → B + 4 ≤ W1.heap.size → YieldAt Fence.wide m Try.prog l #[v] W1 fun e W' =>
    ∃ b : Bool, e = .returned (.bool b) ∧ (match b with | true => J (pre ++ [x]) W' ∧ Held (Kn bn bk) B (B + 4) W1 W' | false => Jx (pre ++ [x]) W')
abbrev caps (B bn bk : Nat) (f : Value) : Array Value := #[f, .pointer (some ⟨B + 2, 0, none⟩), .pointer (some ⟨bk, 0, none⟩), .pointer (some ⟨B, 0, none⟩), .pointer (some ⟨bn, 0, none⟩), .pointer (some ⟨B + 3, 0, none⟩)]
theorem New.grow {a b : World} (h : New a b) : a.grownBy b none := ⟨h.os, h.tape, h.output, h.size, fun k hk _ => h.block k hk⟩
set_option maxHeartbeats 1000000 in
theorem walk_end {m l B bn bk n k : Nat} {S : List (List Nat)} {J Jx : List (List Nat) → World → Prop} (hk : k ≤ 12) (hJ : Bears B (B + 4) J) (hY : Rounds m l B bn bk S J Jx) (q : List Nat) (hq : q.length = k) (f : Nat) (pre : List (List Nat)) (W : World)
    (hP : Priv B bn bk l k n q W) (h0 : J pre W) (hpre : pre ++ [q] <+: S) :
    CallsIn Fence.wide m Try.prog 57 (caps B bn bk (.int .i64 f)) W (EndsB (WalkP J Jx pre [q] (Priv B bn bk l k n q))) := by
  have hmix : Try.prog.follows .mixedOrders = true := by kernel_rfl
  have hdd : ∀ k : Nat, (Fence.wide.depth.isSome = true → 1 ≤ k) := fun k h => by rw [wide_depth] at h; cases h
  have hpc := hP.pick.cell
  have hkc := hP.kb.cell
  have hyc := hP.yb.cell
  rw [hq] at hpc
  have hlt : B + 3 < W.heap.size := hP.walk.lt
  have hrow := hP.row
  rw [hq] at hrow
  have hcl := Lib.hid (fun (w' : World) (hn : New W w') => Clone_list (B + 1) 0 k k q w' (fun j u hu => by
      rw [Nat.zero_add]
      refine (hn.cell (p := ⟨B + 1, j, none⟩) (by show B + 1 < _; omega)).trans ?_
      have := hrow.cells rfl j u hu
      rw [add_cell] at this
      simpa using this) hq (by omega) (by have := hn.size; omega))
  have hPH := Lib.hid hP
  have hJH := Lib.hid h0
  clear hP hrow h0
  refine callsIn_of_wp Try.func57 rfl trivial ?_ rfl; simp only [Try.ntmps57, List.size_toArray, List.length_cons, List.length_nil, Nat.reduceAdd, Nat.reduceSub, Array.replicate_succ, Array.replicate_zero, List.push_toArray, List.append_toArray, List.nil_append, List.cons_append]
  gi_wp2
  gi_region_with (first
    | (refine ⟨trivial, hdd _, ?_⟩; gi_at_call 58; refine (callsIn_wide.2 (hcl.out _ (by exact (New.refl W).drew))).mono ?_
       rintro e w1 ⟨v1, rfl, hown1, hn1⟩
       have hy1 := (hn1.cell (p := ⟨B, 0, none⟩) (by show B < _; simp; omega)).trans hyc
       have hg1 : W.grownBy w1 none := (New.grow (New.next (New.drew (New.refl W)) hn1))
       obtain ⟨fn, tmps, assign, body, hy, hR⟩ := yieldAny (m' := m - 1) (hY pre q v1 w1 (hJ _ _ _ _ hJH.out hg1 (fun r e => by cases e)) hpre (by show World.ownsRow _ _ _ _ _ _ _; rw [hq]; exact hown1.mono (by simp; omega)) (by have := hg1.size; omega)))
    | (refine ⟨hdd _, ?_⟩; refine hR.mono ?_; clear hR; rintro e W2 ⟨b, rfl, hb⟩))
  all_goals
    have hfin : Hid (WalkP J Jx pre [q] (Priv B bn bk l k n q) b W2) := by
      cases b with
      | true => exact ⟨hb.1, (hPH.out.grown hg1).held hb.2⟩
      | false => exact ⟨[q], List.prefix_refl _, hb⟩
    clear hb
    gi_wp2
    go_ret
    exact ⟨b, rfl, hfin.out⟩
theorem pickL_short : ∀ (d f k : Nat), d < k → pickL d f k = []
  | 0, f, k + 1, _ => rfl
  | d + 1, f, k + 1, h => by rw [pickL_succ, pickL_short d (f + 1) k (by omega), pickL_short d (f + 1) (k + 1) (by omega)]; rfl
theorem own_less {w : World} {base g c n : Nat} {e : TypeId} {xs : List Value} {x : Value} (h : w.ownsRow base e 1 (.slice (some ⟨g, 0, none⟩) (n + 1) c) (n + 1) (xs ++ [x])) : w.ownsRow base e 1 (.slice (some ⟨g, 0, none⟩) n c) n xs := by
  have hl := h.1
  simp at hl
  refine ⟨by omega, ?_⟩
  rcases h.2 with ⟨h0, _⟩ | ⟨g', cap, cur, he, hb, hg, h1, h2, h3, h4⟩
  · cases h0
  · cases he
    refine .inr ⟨g, c, cur, rfl, hb, hg, by omega, h2, h3, ?_⟩
    rw [Nat.mul_one] at h4 ⊢
    have h5 : cur.toList.take n = (cur.toList.take (n + 1)).take n := by rw [List.take_take, Nat.min_eq_left (by omega)]
    rw [h5, h4, List.take_append_of_le_length (by omega), List.take_of_length_le (by omega)]
abbrev ext (q : List Nat) (L : List (List Nat)) : List (List Nat) := L.map (fun l => q ++ l)
theorem ext_here (q : List Nat) (x d kk : Nat) : ext q (pickL (d + 1) x (kk + 1)) = ext (q ++ [x]) (pickL d (x + 1) kk) ++ ext q (pickL d (x + 1) (kk + 1)) := by
  unfold ext
  rw [pickL_succ, List.map_append, List.map_map]
  congr 1
  apply List.map_congr_left
  intro l _
  simp
set_option maxHeartbeats 2000000 in
theorem walk_step {m l B bn bk n k : Nat} {S : List (List Nat)} {J Jx : List (List Nat) → World → Prop} (hn : n ≤ 12) (hk : k ≤ n) (hJ : Bears B (B + 4) J) (kk : Nat)
    (ih : ∀ (m f : Nat) (fi : Int) (q : List Nat) (pre : List (List Nat)) (W : World), fi = f → f ≤ n → q.length + kk = k → Priv B bn bk l k n q W → J pre W → pre ++ ext q (pickL (n - f) f kk) <+: S →
      CallsIn Fence.wide m Try.prog 57 (caps B bn bk (.int .i64 fi)) W (EndsB (WalkP J Jx pre (ext q (pickL (n - f) f kk)) (Priv B bn bk l k n q))))
    (f : Nat) (hf : f ≤ n) (q : List Nat) (hq : q.length + (kk + 1) = k) (pre : List (List Nat)) (W : World)
    (hP : Priv B bn bk l k n q W) (h0 : J pre W) (hpre : pre ++ ext q (pickL (n - f) f (kk + 1)) <+: S) :
    CallsIn Fence.wide m Try.prog 57 (caps B bn bk (.int .i64 f)) W (EndsB (WalkP J Jx pre (ext q (pickL (n - f) f (kk + 1))) (Priv B bn bk l k n q))) := by
  have hdd : ∀ k : Nat, (Fence.wide.depth.isSome = true → 1 ≤ k) := fun k h => by rw [wide_depth] at h; cases h
  obtain ⟨i0, hi0, hz0, hz1, hz2⟩ := info_parts infoInt
  obtain ⟨p, hp⟩ : ∃ p, Hid (p = q.length) := ⟨_, rfl⟩
  have hpk : p + kk + 1 = k := by rw [hp.out]; omega
  have hpk1 : ((p : Int) == (k : Int)) = false := by simp; omega
  have hpc := hP.pick.cell
  have hkc := hP.kb.cell
  rw [← hp.out] at hpc
  obtain ⟨that, hthat⟩ : ∃ that, Hid (that = ext q (pickL (n - f) f (kk + 1))) := ⟨_, rfl⟩
  rw [← hthat.out] at hpre ⊢
  have hPH := Lib.hid hP
  have hJH := Lib.hid h0
  have hprH := Lib.hid hpre
  have hpkH := Lib.hid hpk
  have hpk2 : p ≤ k := by omega
  clear hP h0 hpre hpk hq
  refine callsIn_of_wp Try.func57 rfl trivial ?_ rfl; simp only [Try.ntmps57, List.size_toArray, List.length_cons, List.length_nil, Nat.reduceAdd, Nat.reduceSub, Array.replicate_succ, Array.replicate_zero, List.push_toArray, List.append_toArray, List.nil_append, List.cons_append]
  gi_wp2
  gi_loopw [8] (fun c wr => ∃ (x : Nat) (dn : List (List Nat)), c = .int .i64 x ∧ x ≤ n + 1 ∧ Hid (that = dn ++ ext q (pickL (n - x) x (kk + 1))) ∧ Hid (J (pre ++ dn) wr) ∧ Hid (Priv B bn bk l k n q wr)) (fun c _ => n + 1 - (intOf c).toNat)
  case atStart => exact ⟨f, [], rfl, by omega, by rw [hthat.out]; exact rfl, by simpa using hJH, hPH⟩
  case round =>
    obtain ⟨x, dn, rfl, hx, hth, hJr, hPr⟩ := hrel
    have c1 := hPr.out.pick.cell
    have c2 := hPr.out.kb.cell
    have c3 := hPr.out.nb.cell
    rw [← hp.out] at c1
    by_cases hle : x + (kk + 1) ≤ n
    · have hle1 : (x : Int) ≤ (n : Int) - ((k : Int) - (p : Int)) := by have := hpkH.out; omega
      obtain ⟨d, hd⟩ : ∃ d, Hid (n - x = d + 1) := ⟨n - x - 1, by show n - x = n - x - 1 + 1; omega⟩
      obtain ⟨L1, hL1⟩ : ∃ L1, Hid (L1 = ext (q ++ [x]) (pickL d (x + 1) kk)) := ⟨_, rfl⟩
      have hth2 : Hid (that = dn ++ L1 ++ ext q (pickL d (x + 1) (kk + 1))) := by
        show _ = _
        rw [hth.out, hd.out, ext_here, hL1.out, List.append_assoc]
      have hnx : n - (x + 1) = d := by have := hd.out; omega
      have hpr1 : Hid (pre ++ dn ++ L1 <+: S) := by
        refine List.IsPrefix.trans ?_ hprH.out
        rw [hth2.out]
        exact ⟨ext q (pickL d (x + 1) (kk + 1)), by simp [List.append_assoc]⟩
      have ih1 := Lib.hid (fun W h1 h2 => ih (m - 1) (x + 1) ((x : Int) + 1) (q ++ [x]) (pre ++ dn) W (by omega) (by omega) (by have := hpkH.out; have := hp.out; simp; omega) h1 h2 (by rw [hnx, ← hL1.out]; exact hpr1.out))
      rw [hnx, ← hL1.out] at ih1
      have hnxH := Lib.hid hnx
      clear hnx
      have hrow : wr.ownsRow (B + 1) 3 1 (.slice (some ⟨B + 1, 0, none⟩) p k) p (q.map encN) := by have := hPr.out.row; rw [← hp.out] at this; exact this
      have hBs : B + 3 < wr.heap.size := hPr.out.walk.lt
      gi_wp2_with (first
        | (gi_at_builtin; refine wpListIn_append_fits _ rfl _ _ 24 rfl (B + 1) 3 i0 1 Try.underlying24 hi0 hz1 (B + 1) p k (q.map encN) rfl (hrow.alloc _) ⟨wr.heap.size, 0, none⟩ 1 1 [.int .i64 x] rfl rfl (World.news_of_block (cs := #[.int .i64 _]) (t := 3) (fr := (0, 0)) (heap_alloc_new wr _)) (by simp [Value.oneCell']) (by have := hpkH.out; omega) ?_; intro w1 hown1 hgrow1
           have hb2 : Boxed w1 (B + 2) 24 (.slice (some ⟨B + 1, 0, none⟩) p k) := by have := hPr.out.pick; rw [← hp.out] at this; exact Boxed.kept (this.alloc _) hgrow1 (by simp)
           have hb3 := Boxed.kept (hPr.out.walk.alloc (.cells #[.int .i64 x] 3)) hgrow1 (by simp)
           have e1 := hb2.cell; have e2 := hb2.frozen; have e3 := hb3.cell)
        | fail)
      have hgs : w1.grownBy (w1.setCell ⟨B + 2, 0, none⟩ (.slice (some ⟨B + 1, 0, none⟩) (p + 1) k)) (some (B + 2)) := grownBy_setCell' _ _ _
      have hJ2 := hJ _ _ _ _ (hJ _ _ _ _ (hJ.alloc _ hJr.out) hgrow1 (fun r e => by cases e; omega)) hgs (fun r e => by cases e; omega)
      have hP2 : Priv B bn bk l k n (q ++ [x]) (w1.setCell ⟨B + 2, 0, none⟩ (.slice (some ⟨B + 1, 0, none⟩) (p + 1) k)) := by
        have hql : (q ++ [x]).length = p + 1 := by simp [hp.out]
        have hq0 := hPr.out
        refine ⟨(Boxed.kept (hq0.yb.alloc _) hgrow1 (by simp)).kept hgs (by simp), ?_, ?_, hb3.kept hgs (by simp), (Boxed.kept (hq0.nb.alloc _) hgrow1 ?_).kept hgs ?_, (Boxed.kept (hq0.kb.alloc _) hgrow1 ?_).kept hgs ?_, hq0.nlt, hq0.klt⟩
        · rw [hql, List.map_append]
          exact hown1.kept hgs (.inr (by simp [Value.ownBlock]))
        · rw [hql]
          exact hb2.set _
        · have := hq0.nlt; simp; omega
        · have := hq0.nlt; simp; omega
        · have := hq0.klt; simp; omega
        · have := hq0.klt; simp; omega
      refine ⟨trivial, hdd _, ?_⟩
      refine (ih1.out _ hP2 hJ2).mono ?_
      rintro e w2 ⟨b, rfl, hb⟩
      clear hown1 hgrow1 hgs hJ2 hP2 hb2 hb3 e1 e2 e3 hrow c1 c2 c3
      cases b with
      | false =>
        have hfin : Hid (WalkP J Jx pre that (Priv B bn bk l k n q) false w2) := by
          obtain ⟨z, hz, hjx⟩ := hb
          refine ⟨dn ++ z, ?_, by rw [← List.append_assoc]; exact hjx⟩
          rw [hth2.out, List.append_assoc]
          exact (List.prefix_append_right_inj dn).2 (hz.trans (List.prefix_append _ _))
        clear hb
        gi_wp2
        go_ret
        exact ⟨false, rfl, hfin.out⟩
      | true =>
        have hb1 := Lib.hid hb.1
        have hq1 := Lib.hid hb.2
        clear hb
        have hql : (q ++ [x]).length = p + 1 := by simp [hp.out]
        have g1 := hq1.out.pick.cell
        have g2 := hq1.out.pick.frozen
        rw [hql] at g1
        have hqlH := Lib.hid hql
        clear hql
        have hgs : w2.grownBy (w2.setCell ⟨B + 2, 0, none⟩ (.slice (some ⟨B + 1, 0, none⟩) p k)) (some (B + 2)) := grownBy_setCell' _ _ _
        have hJ3 : Hid (J (pre ++ (dn ++ L1)) (w2.setCell ⟨B + 2, 0, none⟩ (.slice (some ⟨B + 1, 0, none⟩) p k))) := by
          show J _ _
          rw [← List.append_assoc]
          exact hJ _ _ _ _ hb1.out hgs (fun r e => by cases e; omega)
        have hP3 : Hid (Priv B bn bk l k n q (w2.setCell ⟨B + 2, 0, none⟩ (.slice (some ⟨B + 1, 0, none⟩) p k))) := by
          have hq0 := hq1.out
          refine ⟨hq0.yb.kept hgs (by simp), ?_, ?_, hq0.walk.kept hgs (by simp), hq0.nb.kept hgs ?_, hq0.kb.kept hgs ?_, hq0.nlt, hq0.klt⟩
          · have h1 := hq0.row
            rw [hqlH.out, List.map_append] at h1
            have h2 := own_less h1
            rw [← hp.out]
            exact h2.kept hgs (.inr (by simp [Value.ownBlock]))
          · rw [← hp.out]
            exact hq0.pick.set _
          · have := hq0.nlt; simp; omega
          · have := hq0.klt; simp; omega
        clear hgs
        gi_wp2
        go_roundw
        case rel => exact ⟨x + 1, dn ++ L1, by go_num, by omega, by rw [hth2.out, hnxH.out]; exact rfl, hJ3, hP3⟩
        case measure => simp [intOf]; omega
    · have hle1 : ¬ (x : Int) ≤ (n : Int) - ((k : Int) - (p : Int)) := by have := hpkH.out; omega
      have hfin : Hid (WalkP J Jx pre that (Priv B bn bk l k n q) true wr) := by
        have h1 := hth.out
        rw [pickL_short _ _ _ (by omega)] at h1
        simp [ext] at h1
        rw [h1]
        exact ⟨hJr.out, hPr.out⟩
      gi_wp2
      go_ret
      exact ⟨true, rfl, hfin.out⟩
theorem walk_any {l B bn bk n k : Nat} {S : List (List Nat)} {J Jx : List (List Nat) → World → Prop} (hn : n ≤ 12) (hk : k ≤ n) (hJ : Bears B (B + 4) J) (hY : ∀ m, Rounds m l B bn bk S J Jx) : ∀ (kk m f : Nat) (fi : Int) (q : List Nat) (pre : List (List Nat)) (W : World), fi = f → f ≤ n → q.length + kk = k → Priv B bn bk l k n q W → J pre W → pre ++ ext q (pickL (n - f) f kk) <+: S →
      CallsIn Fence.wide m Try.prog 57 (caps B bn bk (.int .i64 fi)) W (EndsB (WalkP J Jx pre (ext q (pickL (n - f) f kk)) (Priv B bn bk l k n q)))
  | 0, m, f, fi, q, pre, W, hfi, hf, hq, hP, h0, hpre => by
    subst hfi
    have he : ext q (pickL (n - f) f 0) = [q] := by rw [pickL_zero]; simp [ext]
    rw [he] at hpre ⊢
    exact walk_end (by omega) hJ (hY m) q (by omega) f pre W hP h0 hpre
  | kk + 1, m, f, fi, q, pre, W, hfi, hf, hq, hP, h0, hpre => by
    subst hfi
    exact walk_step hn hk hJ kk (walk_any hn hk hJ hY kk) f hf q hq pre W hP h0 hpre

/-- the value that Each hands back -/
abbrev eachLb (bn bk : Nat) : Array Value := #[.pointer (some ⟨bk, 0, none⟩), .pointer (some ⟨bn, 0, none⟩)]
set_option maxHeartbeats 1000000 in
theorem each_stops {m : Nat} (n k bn bk : Nat) (w : World) (hn : n ≤ 12) (hk : k ≤ n) (hbn : Boxed w bn 3 (.int .i64 n)) (hbk : Boxed w bk 3 (.int .i64 k)) :
    EachK m Try.prog 56 (eachLb bn bk) 4 (Kn bn bk) (pickL n 0 k) ArgI w := by
  intro l J Jx W hW hJ hJx hY h0
  have hdd : ∀ k : Nat, (Fence.wide.depth.isSome = true → 1 ≤ k) := fun k h => by rw [wide_depth] at h; cases h
  have h1 : Boxed W bn 3 (.int .i64 n) := (hW.block bn hbn.lt).trans hbn
  have h2 : Boxed W bk 3 (.int .i64 k) := (hW.block bk hbk.lt).trans hbk
  have hbn0 := h1.lt
  have hbk0 := h2.lt
  have hmk := run_make_room (P := Try.prog) 24 3 (.int .i64 0) 8 Try.underlying24 infoInt rfl .i64 .i64 k (by omega) (by omega)
  have c2 := h2.cell
  have hY' : ∀ m, Rounds m l W.heap.size bn bk (pickL n 0 k) J Jx := fun m' pre x v W1 hj hp ha hs => yieldAny ((hY pre x v W1 hj hp ha hs).mono fun e W' h => by
    rcases h with ⟨rfl, hj, hh⟩ | ⟨rfl, hx⟩
    · exact ⟨true, rfl, hj, hh⟩
    · exact ⟨false, rfl, hx⟩)
  have hwk := Lib.hid (fun W' hp hj => walk_any (l := l) (B := W.heap.size) hn hk hJ hY' k (m - 1) 0 0 [] [] W' rfl (by omega) (by simp) hp hj (by simp [ext]))
  have hJH := Lib.hid h0
  clear h0 hY hY'
  show CallsIn Fence.wide m Try.prog 56 #[.func (.yield l) #[] #[], .pointer (some ⟨bk, 0, none⟩), .pointer (some ⟨bn, 0, none⟩)] W _
  refine callsIn_of_wp Try.func56 rfl trivial ?_ rfl; simp only [Try.ntmps56, List.size_toArray, List.length_cons, List.length_nil, Nat.reduceAdd, Nat.reduceSub, Array.replicate_succ, Array.replicate_zero, List.push_toArray, List.append_toArray, List.nil_append, List.cons_append]
  gi_wp2_with fail
  refine ⟨trivial, hdd _, ?_⟩
  refine (hwk.out _ ?_ ?_).mono ?_
  · refine ⟨(((Boxed.new W _ _).alloc _).alloc _).alloc _, ?_, ?_, ?_, (((h1.alloc _).alloc _).alloc _).alloc _, (((h2.alloc _).alloc _).alloc _).alloc _, hbn0, hbk0⟩
    · have hr := World.ownsRow_made (base := W.heap.size + 1) (e := 3) (size := 1) (W.alloc (.cells #[.func (.yield l) #[] #[]] 82)) (madeCells #[.int .i64 0] k) k (by simp) (by unfold maxLen; omega) (by rw [size_madeCells]; omega)
      simp only [World.size_alloc] at hr
      exact (hr.alloc _).alloc _
    · have hr := Boxed.new ((W.alloc (.cells #[.func (.yield l) #[] #[]] 82)).alloc (.cells (madeCells #[.int .i64 0] k) 3)) 24 (.slice (some ⟨W.heap.size + 1, 0, none⟩) 0 k)
      simp only [World.size_alloc] at hr
      exact hr.alloc _
    · have hr := Boxed.new (((W.alloc (.cells #[.func (.yield l) #[] #[]] 82)).alloc (.cells (madeCells #[.int .i64 0] k) 3)).alloc (.cells #[.slice (some ⟨W.heap.size + 1, 0, none⟩) 0 k] 24)) 62 (.func (.func 57) #[] #[.pointer (some ⟨W.heap.size + 1 + 1, 0, none⟩), .pointer (some ⟨bk, 0, none⟩), .pointer (some ⟨W.heap.size, 0, none⟩), .pointer (some ⟨bn, 0, none⟩), .pointer (some ⟨W.heap.size + 1 + 1 + 1, 0, none⟩)])
      simp only [World.size_alloc] at hr
      exact hr
  · exact hJ.alloc _ (hJ.alloc _ (hJ.alloc _ (hJ.alloc _ hJH.out)))
  rintro e w2 ⟨b, rfl, hb⟩
  have hfin : Hid (J (pickL n 0 k) w2 ∨ ∃ pre, pre <+: pickL n 0 k ∧ Jx pre w2) := by
    have he : ext [] (pickL (n - 0) 0 k) = pickL n 0 k := by simp [ext]
    rw [he] at hb
    cases b with
    | true => exact .inl (by simpa using hb.1)
    | false => obtain ⟨z, hz, hx⟩ := hb; exact .inr ⟨z, hz, by simpa using hx⟩
  clear hb
  gi_wp2
  go_end0
  exact ⟨⟨_, rfl⟩, hfin.out⟩
theorem Each_any (n k : Int) (w : World) :
    Calls Try.prog 53 #[.int .i64 n, .int .i64 k] w fun e w' => e = .returned (.func (.func 56) #[] (eachLb w.heap.size (w.heap.size + 1))) ∧ w' = (w.alloc (.cells #[.int .i64 n] 3)).alloc (.cells #[.int .i64 k] 3) := by
  go_enter Try.func53, Try.ntmps53
  go_wp2
  go_ret
  exact ⟨rfl, rfl⟩
end Go.Proofs.Ytpknpmmcploacaa.comb
