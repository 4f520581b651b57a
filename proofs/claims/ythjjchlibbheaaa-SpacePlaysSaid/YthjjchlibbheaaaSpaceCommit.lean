/-
  Contract: a commit.
-/
import Derived.Test.YthjjchlibbheaaaSpaceGive
import Derived.Test.YthjjchlibbheaaaSpaceReplay
namespace Go.Proofs.Ythjjchlibbheaaa.space
open Go.ChangeShapes Go.WideShapes Go.ChangeAt Go.RowKit Go.Proofs.Ythjjchlibbheaaa.kit Go.Deep
set_option linter.unusedVariables false

/-- own rows of two element types are two rows -/
theorem own_ne {w : World} {b b' : Nat} {e e' : TypeId} {s s' n n' : Nat} {v v' : Value} {xs xs' : List Value} (h : w.ownsRow b e s v n xs) (h' : w.ownsRow b' e' s' v' n' xs') (hne : e ≠ e') (hs : v.ownBlock ≠ none) : v.ownBlock ≠ v'.ownBlock := by
  rcases h.2 with ⟨rfl, _⟩ | ⟨g, cap, cur, rfl, _, hg, _⟩
  · exact absurd rfl hs
  · rcases h'.2 with ⟨rfl, _⟩ | ⟨g', cap', cur', rfl, _, hg', _⟩
    · simp [Value.ownBlock]
    · intro he
      have hgg : g = g' := by simpa [Value.ownBlock] using he
      subst hgg
      rw [hg] at hg'
      injection hg' with hg'
      injection hg' with _ hg' _
      exact hne hg'
/-- stretches are set to 0, one by one -/
def clr (u : Nat → Nat) (l : List (Nat × Nat)) : Nat → Nat := l.foldl (fun u p => setU u p.1 p.2 0) u
theorem clr_app (u : Nat → Nat) (l : List (Nat × Nat)) (p : Nat × Nat) : clr u (l ++ [p]) = setU (clr u l) p.1 p.2 0 := by simp [clr]
theorem clr_in : ∀ (l : List (Nat × Nat)) (u : Nat → Nat) (j : Nat), (u j = 0 ∨ ∃ p ∈ l, p.1 ≤ j ∧ j < p.2) → clr u l j = 0
  | [], u, j, h => by
    rcases h with h | ⟨p, hp, _⟩
    · exact h
    · simp at hp
  | p :: l, u, j, h => by
    show clr (setU u p.1 p.2 0) l j = 0
    refine clr_in l _ j ?_
    by_cases hp : p.1 ≤ j ∧ j < p.2
    · left; unfold setU; rw [if_pos hp]
    · rcases h with h | ⟨q, hq, h1⟩
      · left; unfold setU; rw [if_neg hp]; exact h
      · rcases List.mem_cons.1 hq with rfl | hq
        · exact absurd h1 hp
        · exact .inr ⟨q, hq, h1⟩
theorem clr_out : ∀ (l : List (Nat × Nat)) (u : Nat → Nat) (j : Nat), (∀ p ∈ l, ¬ (p.1 ≤ j ∧ j < p.2)) → clr u l j = u j
  | [], u, j, _ => rfl
  | p :: l, u, j, h => by
    show clr (setU u p.1 p.2 0) l j = u j
    rw [clr_out l _ j fun q hq => h q (by simp [hq])]
    unfold setU; rw [if_neg (h p (by simp))]
theorem clr_three (u : Nat → Nat) (n j : Nat) (hj : j < n) : clr u (listN (fun i => decide (u i = 3)) n) j = if u j = 3 then 0 else u j := by
  by_cases h : u j = 3
  · rw [if_pos h]
    refine clr_in _ _ _ (.inr ?_)
    exact true_list _ n j hj (decide_eq_true h)
  · rw [if_neg h]
    refine clr_out _ _ _ fun p hp h1 => ?_
    have := (list_true _ n p hp).2.2 j h1.1 h1.2
    exact h (by simpa using this)
theorem clr_le (l : List (Nat × Nat)) : ∀ (u : Nat → Nat) (j : Nat), (∀ j, u j < 256) → clr u l j < 256 := by
  induction l with
  | nil => intro u j h; exact h j
  | cons p l ih =>
    intro u j h
    refine ih (setU u p.1 p.2 0) j fun i => ?_
    unfold setU; split
    · omega
    · exact h i
/-- what rested rests no more -/
def agF (u : Nat → Nat) (i : Nat) : Nat → Nat := fun j => if j < i ∧ u j = 2 then 3 else u j
theorem agF_zero (u : Nat → Nat) : agF u 0 = u := by funext j; unfold agF; rw [if_neg (by omega)]
theorem agF_skip (u : Nat → Nat) (i : Nat) (h : u i ≠ 2) : agF u (i + 1) = agF u i := by
  funext j
  unfold agF
  by_cases hj : j = i
  · subst hj; rw [if_neg (fun h1 => h h1.2), if_neg (by omega)]
  · by_cases h2 : j < i ∧ u j = 2
    · rw [if_pos h2, if_pos ⟨by omega, h2.2⟩]
    · rw [if_neg h2, if_neg (fun h3 => h2 ⟨by omega, h3.2⟩)]
theorem agF_set (u : Nat → Nat) (i : Nat) (h : u i = 2) : (fun j => if j = i then Value.int .u8 3 else byF (agF u i) j) = byF (agF u (i + 1)) := by
  funext j
  unfold byF agF
  by_cases hj : j = i
  · subst hj; rw [if_pos rfl, if_pos ⟨by omega, h⟩]; rfl
  · rw [if_neg hj]
    by_cases h2 : j < i ∧ u j = 2
    · rw [if_pos h2, if_pos ⟨by omega, h2.2⟩]
    · rw [if_neg h2, if_neg (fun h3 => h2 ⟨by omega, h3.2⟩)]
theorem agF_at (u : Nat → Nat) (i : Nat) : agF u i i = u i := by unfold agF; rw [if_neg (by omega)]
theorem commit_fin (u : Nat → Nat) (n j : Nat) (hj : j < n) : agF (clr u (listN (fun i => decide (u i = 3)) n)) n j = cmU u j := by
  unfold agF cmU
  rw [clr_three u n j hj]
  by_cases h3 : u j = 3
  · have h2 : u j ≠ 2 := by omega
    rw [if_pos h3]
    simp [h3]
  · rw [if_neg h3]
    by_cases h2 : u j = 2
    · simp [h2, hj]
    · simp [h2]
def rrM (l : List (Nat × Nat)) : List (Bool × Nat × Nat) := l.map fun p => (true, p.1, p.2)
set_option maxRecDepth 100000 in
theorem enterCommit1 : ∀ (args : Array Value) (w : World), (callFunc 84 args).run Try.prog w = .ok (.enter 84 args) w := by
  intro args w
  have hf : Try.prog.funcs[84]? = some Try.f84 := by rfl
  have h1 : Try.f84.name ≠ "runtime.NumGoroutine" := by
    have : (Try.f84.name == "runtime.NumGoroutine") = false := by kernel_rfl
    simpa using this
  obtain ⟨c, hb⟩ : ∃ c, Try.f84.body = some c := ⟨_, rfl⟩
  simp [callFunc, hf, h1, hb]
theorem Commit1_any (x : Nat) (w : World) : Calls Try.prog 84 #[.int .u8 (x : Nat)] w fun e w' => e = .returned (.bool (decide (x = 3))) ∧ New w w' := by
  by_cases h : x = 3
  · subst h
    go_enter Try.func84, Try.ntmps84
    go_wp2
    go_ret
    exact ⟨rfl, New.refl _⟩
  · have hb : ((x : Int) == 3) = false := by simp; omega
    have hd : decide (x = 3) = false := decide_eq_false h
    rw [hd]
    go_enter Try.func84, Try.ntmps84
    go_wp2
    go_ret
    exact ⟨rfl, New.refl _⟩
set_option maxHeartbeats 1000000 in
theorem commit_ok (B G U n : Nat) (u : Nat → Nat) (recs : List (Bool × Nat × Nat)) (w : World) (h : SpaceL B w G U n u recs) (hn : n ≤ 4096) (hu : ∀ j, u j < 256) (hBw : B ≤ w.heap.size) (hrs : recs.length ≤ 10000000) :
    Calls Try.prog 59 #[.pointer (some ⟨G, 0, none⟩)] w fun e w' => e = .returned (.tuple #[]) ∧ SpaceL B w' G U n (cmU u) (recs ++ rrM (listN (fun i => decide (u i = 3)) n)) ∧ Below B w w' ∧ KeepT w w' := by
  obtain ⟨hBG, hBU, hGU, log, hSp, hlog⟩ := h
  have hGl := hSp.1.lt
  have hUl := hSp.2.2
  obtain ⟨L, hL⟩ : ∃ L, Hid (L = listN (fun i => decide (u i = 3)) n) := ⟨_, (rfl : _ = _)⟩
  obtain ⟨N, hNL⟩ : ∃ N, Hid (L.length = N) := ⟨_, (rfl : _ = _)⟩
  have hN5 : N ≤ 4097 := by rw [← hNL.out, hL.out]; exact Nat.le_trans (listN_len _ _) (by omega)
  have hend : Hid ((stN (fun i => decide (i < n) && decide (u i = 3)) (n + 1)).1 = L) := by
    rw [hL.out]
    exact list_end _ n _ (fun i hi => by simp [hi]) (by simp)
  have hruns : Hid (∀ p ∈ L, p.1 < p.2 ∧ p.2 ≤ n) := by rw [hL.out]; exact fun p hp => ⟨(list_true _ n p hp).1, (list_true _ n p hp).2.1⟩
  have hsum : Hid (sumL L = cntU 3 u n) := by rw [hL.out]; exact sum_cnt 3 u n
  have hfin : Hid (∀ j, j < n → agF (clr u L) n j = cmU u j) := by rw [hL.out]; exact fun j hj => commit_fin u n j hj
  have hcc := Lib.hid (cnt_commit u n)
  have hc0 := Lib.hid (cntU_le 0 u n)
  have hc3 := Lib.hid (cntU_le 3 u n)
  have hul : Hid (∀ l j, clr u l j < 256) := fun l j => clr_le l u j hu
  rw [← hL.out]
  have hSp0 := Lib.hid hSp
  have hlog0 := Lib.hid hlog
  clear hSp hlog hu
  obtain ⟨i0, hi0, hz0, hz1, hz2⟩ := info_parts infoRec
  go_enter Try.func59, Try.ntmps59
  go_wp2_with fail
  refine (runs_ok G U n _ log u 84 enterCommit1 (fun x => decide (x = 3)) w hSp0.out hn (fun x w2 hn2 => Commit1_any x w2) (fun i => decide (i < n) && decide (u i = 3)) (fun i hi => by simp [hi]) (by simp)).mono ?_
  rw [hend.out, hNL.out]
  rintro e w1 ⟨v, rfl, ho, hn1⟩
  obtain ⟨A2, c2, rfl, hc1, hc2, hdrop⟩ := own_open ho
  have hA2 := Lib.hid hdrop.1
  have ho1 := Lib.hid ho
  clear hdrop ho
  go_wp2
  go_loopw [9] (fun k wr => ∃ (i lf : Nat) (log' : Value), k = .int .i64 i ∧ i ≤ N ∧ Hid (lf = cntU 0 u n + sumL (L.take i)) ∧ Blk wr G 81 #[.slice (some ⟨U, 0, none⟩) n n, .int .i64 lf, log'] ∧ wr.rowIs U 5 n (byF (clr u (L.take i))) ∧ wr.ownsRow B 77 3 log' (recs.length + i) (rrL (recs ++ rrM (L.take i))) ∧ wr.ownsRow w.heap.size 75 2 (.slice A2 N c2) N (rgL L) ∧ Below B w wr ∧ w.heap.size ≤ wr.heap.size ∧ KeepT w wr) (fun k _ => N - (intOf k).toNat)
  case atStart =>
    have hS1 := hSp0.out.new hn1
    refine ⟨0, cntU 0 u n, log, rfl, by omega, ?_, hS1.1, hS1.2.1, ?_, ho1.out, hn1.mono hBw, hn1.size, (KeepT.refl w).new hn1⟩
    · exact (rfl : _ = _)
    · have := own_new hlog0.out hn1
      simpa [rrM] using this
  case round =>
    obtain ⟨i, lf, log', rfl, hi, hlf, hG, hU, hlg, hv, hbe, hsz, hKr⟩ := hrel
    by_cases hlt : i < N
    · have hiL : i < L.length := by rw [hNL.out]; exact hlt
      obtain ⟨g2, rfl, hg2, _⟩ := hA2.out (by omega)
      obtain ⟨q1, q2⟩ := rgL_at L i hiL
      obtain ⟨p, hp⟩ : ∃ p, Hid (p = L[i]) := ⟨_, Lib.hid rfl⟩
      have hpm : p ∈ L := by rw [hp.out]; exact List.getElem_mem hiL
      have htk : Hid (L.take (i + 1) = L.take i ++ [p]) := by rw [hp.out]; exact List.take_succ_eq_append_getElem hiL
      rw [← hp.out] at q1 q2
      obtain ⟨f, t⟩ := p
      obtain ⟨hft, htn⟩ := hruns.out _ hpm
      simp only at q1 q2 hft htn
      have c0 := hv.cells (g := g2) rfl (i * 2) _ q1
      have c1 := hv.cells (g := g2) rfl (i * 2 + 1) _ q2
      rw [add_cell] at c0 c1
      simp only [Nat.zero_add] at c0 c1
      have hsl : sumL (L.take (i + 1)) = sumL (L.take i) + (t - f) := by rw [htk.out, sumL_app]; simp [sumL]
      have hsle : sumL (L.take (i + 1)) ≤ cntU 3 u n := by
        rw [← hsum.out]
        have := sumL_app (L.take (i + 1)) (L.drop (i + 1))
        rw [List.take_append_drop] at this
        omega
      have hlf' : Hid (lf + (t - f) = cntU 0 u n + sumL (L.take (i + 1))) := by rw [hlf.out, hsl]; show _ = _; omega
      have hlfs : lf + (t - f) ≤ 8192 := by rw [hlf'.out]; have := hc0.out; have := hc3.out; omega
      obtain ⟨d, hd⟩ : ∃ d, Hid (d = t - f) := ⟨_, (rfl : _ = _)⟩
      have hds : d ≤ 4096 ∧ lf + d ≤ 8192 := by rw [hd.out]; omega
      clear q1 q2 hpm hsl hsle hlfs hp hiL
      have hGl2 : G < wr.heap.size := hG.lt
      have hUl2 : U < wr.heap.size := hU.lt
      go_upto_region 3 with fail
      obtain ⟨W1, hW1⟩ : ∃ W1, W1 = wr.alloc (.cells #[.int .i64 f, .int .i64 t] 75) := ⟨_, rfl⟩
      rw [← hW1]
      have hb1 : Blk W1 wr.heap.size 75 #[.int .i64 f, .int .i64 t] := by rw [hW1]; exact Blk.fresh _ _ _
      have hN1 : New wr W1 := by rw [hW1]; exact (New.refl _).alloc _
      clear hW1
      have r0 := hb1.cell 0
      have r1 := hb1.cell 1
      simp at r0 r1
      have hG1 := hG.new hN1
      have hU1 := rowIs_new hU hN1
      have hl1 := own_new hlg hN1
      have hv1 := own_new hv hN1
      have hSp1 : SpaceAt W1 G U n (lf : Nat) log' (clr u (L.take i)) := ⟨hG1, hU1, hU1.lt⟩
      have hbe1 := Go.Proofs.Ythjjchlibbheaaa.kit.Below.next hbe hN1 (by omega)
      have hs1 := hN1.size
      clear hG hU hlg hv c0 c1
      go_wp2_with fail
      refine (set_ok G U n f t 0 lf log' _ W1 hSp1 hGU (by omega) htn hn).mono ?_
      rintro e w3 ⟨rfl, hSp3, hg3⟩
      have hbe3 : Below B w w3 := Below.grown hbe1 hg3 (by omega) (fun g hg => by injection hg with hg; omega)
      have hlU : log'.ownBlock ≠ some U := own_ne_row hl1 hU1 (by decide)
      have hK3 : KeepT w w3 := (hKr.new hN1).grown hg3 (fun g hg => .inr (by injection hg with hg; subst hg; exact tin_row hU1 (.inr (.inl rfl))))
      have hvU : (Value.slice (some ⟨g2, 0, none⟩) N c2).ownBlock ≠ some U := own_ne_row hv1 hU1 (by decide)
      have hl3 := hl1.kept hg3 (.inr hlU)
      have hv3 := hv1.kept hg3 (.inr hvU)
      have hUb : wr.heap.size ≠ U := by omega
      have hb3 := hb1.grown hg3 (by simp; omega)
      have hs3 := hg3.size
      clear hSp1 hG1 hU1 hl1 hv1 hb1 r0 r1
      go_upto_region 4 with fail
      have G3 := hSp3.1.cell 1
      have s0 := hb3.cell 0
      have s1 := hb3.cell 1
      simp at G3 s0 s1
      have n0 := NewW.keep G3
      have n1 := NewW.keep s0
      have n2 := NewW.keep s1
      have e1 : IntKind.i64.wrap ((t : Int) - (f : Int)) = (d : Int) := by
        rw [show (t : Int) - (f : Int) = (d : Int) by rw [hd.out]; omega]; exact IntWalk.i64_in _ (by omega)
      obtain ⟨lf2, hlf2⟩ : ∃ lf2, Hid (lf2 = lf + d) := ⟨_, (rfl : _ = _)⟩
      have hlf2s : lf2 ≤ 8192 := by rw [hlf2.out]; exact hds.2
      have e2 : IntKind.i64.wrap ((lf : Int) + (d : Int)) = (lf2 : Int) := by
        rw [show (lf : Int) + (d : Int) = (lf2 : Int) by rw [hlf2.out]; push_cast; rfl]; exact IntWalk.i64_in _ (by omega)
      clear G3 s0 s1
      (refine wp_region_new_tail 12 (by kernel_rfl) (by kernel_rfl) ?_; simp only [List.take_succ_cons, List.take_zero, List.drop_succ_cons, List.drop_zero]; (repeat (first | go_big_quiet_step (fail) | quiet_step (fail))); refine wpQuiet_nil ?_; rintro W4 ⟨⟨_, hn_W4⟩, rfl⟩)
      have G4 := hSp3.1.new hn_W4
      have U4 := rowIs_new hSp3.2.1 hn_W4
      have l4 := own_new hl3 hn_W4
      have v4 := own_new hv3 hn_W4
      have b4 := hb3.new hn_W4
      have hs4 := hn_W4.size
      have hbe4 := Go.Proofs.Ythjjchlibbheaaa.kit.Below.next hbe3 hn_W4 (by omega)
      have g1 := G4.cell 1
      have gf1 := G4.frozen 1
      simp at g1
      clear n0 n1 n2 e1 e2 hSp3 hl3 hv3 hb3 hg3
      go_upto_region 5 with fail
      obtain ⟨W5, hW5⟩ : ∃ W5, W5 = W4.setCell ⟨G, 1, none⟩ (.int .i64 (lf2 : Int)) := ⟨_, rfl⟩
      rw [← hW5]
      have k5 : Blk W5 G 81 #[.slice (some ⟨U, 0, none⟩) n n, .int .i64 (lf2 : Int), log'] := by rw [hW5]; exact G4.put 1 (.int .i64 (lf2 : Int))
      have u5 : W5.rowIs U 5 n (byF (setU (clr u (L.take i)) f t 0)) := by rw [hW5]; exact U4.setOther (by simp; omega) _
      have hlG : log'.ownBlock ≠ some G := own_ne_blk l4 G4 (by decide)
      have hvG : (Value.slice (some ⟨g2, 0, none⟩) N c2).ownBlock ≠ some G := own_ne_blk v4 G4 (by decide)
      have l5 : W5.ownsRow B 77 3 log' (recs.length + i) (rrL (recs ++ rrM (L.take i))) := by rw [hW5]; exact ownsRow_setCell_other l4 (a := ⟨G, 1, none⟩) hlG _
      have v5 : W5.ownsRow w.heap.size 75 2 (.slice (some ⟨g2, 0, none⟩) N c2) N (rgL L) := by rw [hW5]; exact ownsRow_setCell_other v4 (a := ⟨G, 1, none⟩) hvG _
      have b5 : Blk W5 wr.heap.size 75 #[.int .i64 f, .int .i64 t] := by rw [hW5]; exact b4.far (by simp; omega) _
      have hK5 : KeepT w W5 := by rw [hW5]; exact (hK3.new hn_W4).set (p := ⟨G, 1, none⟩) _ (.inr (tin_blk G4 (.inl rfl)))
      have hbe5 : Below B w W5 := by rw [hW5]; exact Below.setCell hbe4 (p := ⟨G, 1, none⟩) hBG _
      have hs5 : w.heap.size ≤ W5.heap.size := by have := v5.lt g2 rfl; omega
      clear hW5 G4 U4 l4 v4 b4 g1 gf1
      have c2' := k5.cell 2
      have f2' := k5.frozen 2
      have r0 := b5.cell 0
      have r1 := b5.cell 1
      simp at c2' r0 r1
      have hGW : G < W5.heap.size := k5.lt
      have hBW5 : B ≤ W5.heap.size := by omega
      have hlU5 : log'.ownBlock ≠ some U := hlU
      have hvl : (Value.slice (some ⟨g2, 0, none⟩) N c2).ownBlock ≠ log'.ownBlock := own_ne v5 l5 (by decide) (by simp [Value.ownBlock])
      have hrr : Hid (rrL (recs ++ rrM (L.take (i + 1))) = rrL (recs ++ rrM (L.take i)) ++ [.bool true, .int .i64 f, .int .i64 t]) := by
        rw [htk.out]
        have : recs ++ rrM (L.take i ++ [(f, t)]) = (recs ++ rrM (L.take i)) ++ [(true, f, t)] := by simp [rrM]
        rw [this, rrL_app]; exact (rfl : _ = _)
      have hlfn : Hid (lf2 = cntU 0 u n + sumL (L.take (i + 1))) := by rw [hlf2.out, hd.out]; exact hlf'.out
      go_region_law (first | (refine step_append_lies _ (by rfl) _ _ _ (by rfl) B 77 i0 _ 3 24 Try.underlying22 hi0 hz0 hz1 hz2 rfl (by decide) _ (recs.length + i) (rrL (recs ++ rrM (L.take i))) (by rfl) ((l5.alloc _).drew) ⟨W5.heap.size, 0, none⟩ 1 1 [.bool true, .int .i64 f, .int .i64 t] (by rfl) (by rfl) (World.news_of_block (cs := #[.bool _, .int .i64 _, .int .i64 _]) (t := 77) (fr := (0, 0)) (heap_alloc_new W5 _)) (by simp [Value.oneCell']) (by omega) (by unfold maxLen; omega) (by omega) (by simp; omega) (W5.heap.size + 1) (by simp) ?_; intro gg cap1 w6 hown6 hgrow hat hlt6; have k6 := (k5.alloc (.cells #[.bool true, .int .i64 f, .int .i64 t] 77)).drew.grown hgrow hlG; have c6 := k6.cell 2; have f6 := k6.frozen 2; simp at c6))
      all_goals
        have hneG := own_ne_blk hown6 k6 (by decide)
        have hu6 := rowIs_grown (u5.alloc (.cells #[.bool true, .int .i64 f, .int .i64 t] 77)).drew hgrow hlU5
        have hv6 := (v5.alloc (.cells #[.bool true, .int .i64 f, .int .i64 t] 77)).drew.kept hgrow (.inr hvl)
        have hN6 := below_append hbe5 hgrow hBW5 (fun g hg => (l5.lt g hg).1)
        have hs6 := hgrow.size
        have hK6 := keep_append hK5 hgrow l5
        have hK7 := hK6.set (p := ⟨G, 2, none⟩) (.slice (some ⟨gg, 0, none⟩) (recs.length + i + 1) cap1) (.inr (tin_blk k6 (.inl rfl)))
        have k7 := k6.put 2 (.slice (some ⟨gg, 0, none⟩) (recs.length + i + 1) cap1)
        have l7 := ownsRow_setCell_other hown6 (a := ⟨G, 2, none⟩) hneG (.slice (some ⟨gg, 0, none⟩) (recs.length + i + 1) cap1)
        have u7 := hu6.setOther (a := ⟨G, 2, none⟩) (by simp; omega) (.slice (some ⟨gg, 0, none⟩) (recs.length + i + 1) cap1)
        have v7 := ownsRow_setCell_other hv6 (a := ⟨G, 2, none⟩) hvG (.slice (some ⟨gg, 0, none⟩) (recs.length + i + 1) cap1)
        have hbe7 := Below.setCell hN6 (p := ⟨G, 2, none⟩) hBG (.slice (some ⟨gg, 0, none⟩) (recs.length + i + 1) cap1)
        rw [← clr_app u (L.take i) (f, t), ← htk.out] at u7
        rw [← hrr.out] at l7
        have kk := Lib.hid (And.intro k7 (And.intro u7 (And.intro l7 (And.intro v7 hbe7))))
        clear k7 u7 l7 v7 hbe7 hown6 hgrow hu6 hv6 hN6 c6 f6 k6
        go_wp2
        go_roundw
        case rel =>
          obtain ⟨k7, u7, l7, v7, hbe7⟩ := kk.out
          exact ⟨i + 1, lf2, _, by go_num, by omega, hlfn, k7, u7, l7, v7, hbe7, by simp at hs6 ⊢; omega, hK7⟩
        case measure => simp [intOf]; omega
    · have hin : i = N := by omega
      have htl : L.take i = L := by rw [hin, ← hNL.out, List.take_length]
      rw [htl] at hU hlf hlg
      have hlfn : Hid (lf = cntU 0 (cmU u) n) := by rw [hlf.out, hcc.out, hsum.out]; exact (rfl : _ = _)
      have hG0 := hG.cell 0
      simp at hG0
      have hlgU : log'.ownBlock ≠ some U := own_ne_row hlg hU (by decide)
      have hlg1 := Lib.hid hlg
      have hv1 := Lib.hid hv
      have hin1 := Lib.hid hin
      clear hin htl hlg hv hlf
      obtain ⟨W8, hW8⟩ : ∃ W8, W8 = wr := ⟨_, rfl⟩
      subst hW8
      go_wp2
      go_loopw [45] (fun k wr => ∃ q : Nat, k = .int .i64 q ∧ q ≤ n ∧ W8.grownBy wr (some U) ∧ Blk wr G 81 #[.slice (some ⟨U, 0, none⟩) n n, .int .i64 lf, log'] ∧ wr.rowIs U 5 n (byF (agF (clr u L) q))) (fun k _ => n - (intOf k).toNat)
      case atStart => exact ⟨0, rfl, by omega, World.grownBy.refl _ _, hG, by rw [agF_zero]; exact hU⟩
      case round =>
        obtain ⟨q, rfl, hq, hgr, hG', hU'⟩ := hrel
        have x0 := hG'.cell 0
        simp at x0
        by_cases hql : q < n
        · obtain ⟨y, hy⟩ : ∃ y, Hid (y = clr u L q) := ⟨_, (rfl : _ = _)⟩
          have d0 : wr.cell? ⟨U, q, none⟩ = some (.int .u8 (y : Int)) := by
            rw [hU'.cell hql, hy.out]; unfold byF; rw [agF_at]
          have f0 := hU'.frozen q
          by_cases h2 : (y : Int) = 2
          · have hy2 : Hid (clr u L q = 2) := by rw [← hy.out]; show y = 2; omega
            have hset := Lib.hid (hU'.set q (.int .u8 3))
            have hi1 : (q : Int) < (n : Int) := by omega
            go_wp2
            go_roundw
            case rel =>
              refine ⟨q + 1, by go_num, by omega, hgr.trans (grownBy_set wr U q _), hG'.far (by simp; omega) _, ?_⟩
              have := hset.out
              rwa [agF_set _ q hy2.out] at this
            case measure => simp [intOf]; omega
          · have hy2 : Hid (clr u L q ≠ 2) := by rw [← hy.out]; show y ≠ 2; omega
            have hb2 : ((y : Int) == 2) = false := by simp; omega
            go_wp2
            go_roundw
            case rel => exact ⟨q + 1, by go_num, by omega, hgr, hG', by rw [agF_skip _ q hy2.out]; exact hU'⟩
            case measure => simp [intOf]; omega
        · have hqn : q = n := by omega
          subst hqn
          have hUf := hU'.congr (g := byF (cmU u)) (fun j hj => by unfold byF; rw [hfin.out j hj])
          have hlk := hlg1.out.kept hgr (.inr hlgU)
          have hbf : Below B w wr := Below.grown hbe hgr (by omega) (fun g hg => by injection hg with hg; omega)
          have hKf : KeepT w wr := hKr.grown hgr (fun g hg => .inr (by injection hg with hg; subst hg; exact tin_row hU (.inr (.inl rfl))))
          have hlen : (recs ++ rrM L).length = recs.length + i := by rw [List.length_append, hin1.out, ← hNL.out]; simp [rrM]
          rw [hlfn.out] at hG'
          rw [← hlen] at hlk
          go_wp2
          exact Great.bodyPost_end0 rfl rfl ⟨rfl, ⟨hBG, hBU, hGU, log', ⟨hG', hUf, hUf.lt⟩, hlk⟩, hbf, hKf⟩
end Go.Proofs.Ythjjchlibbheaaa.space
