/-
  Contract of the reference's ends.
-/
import Derived.Test.YthkgcbjfgglciaaSpanThose
import Derived.Test.YthkgcbjfgglciaaSpanRead
import Derived.Laws.CopyOwn
import Derived.Deep.AppendLies
import Derived.Test.YthkgcbjfgglciaaRow
namespace Go.Proofs.Ythkgcbjfgglciaa.spans
open Go.ChangeShapes Go.WideShapes Go.ChangeAt Go.RowKit Go.Proofs.Ythkgcbjfgglciaa.kit Go.Proofs.Ythkgcbjfgglciaa.span Go.Deep
set_option linter.unusedVariables false
def intsL (l : List Int) : List Value := l.map fun x => .int .i64 x
/-- an own row's block, whole -/
theorem own_cur {w : World} {base : Nat} {e : TypeId} {g n c m : Nat} {xs : List Value} (h : w.ownsRow base e 1 (.slice (some ⟨g, 0, none⟩) n c) m xs) :
    base ≤ g ∧ m ≤ c ∧ n = m ∧ ∃ cur : List Value, w.heap[g]? = some (.cells cur.toArray e (0, 0)) ∧ cur.length = c ∧ cur.take m = xs := by
  rcases h.2 with ⟨h0, _⟩ | ⟨g', cap, cur, hv, hb, hg, h1, h2, h3, h4⟩
  · cases h0
  · cases hv
    exact ⟨hb, h1, rfl, cur.toList, by simpa using hg, by simpa using h3, by simpa using h4⟩
theorem own_mk {w w' : World} {base : Nat} {e : TypeId} {g n c m : Nat} {xs xs' : List Value} {cur : List Value} (h : w.ownsRow base e 1 (.slice (some ⟨g, 0, none⟩) n c) m xs)
    (hg : w'.heap[g]? = some (.cells cur.toArray e (0, 0))) (hc : cur.length = c) (ht : cur.take m = xs') : w'.ownsRow base e 1 (.slice (some ⟨g, 0, none⟩) n c) m xs' := by
  rcases h.2 with ⟨h0, _⟩ | ⟨g', cap, cur0, hv, hb, hg0, h1, h2, h3, h4⟩
  · cases h0
  · cases hv
    refine ⟨by rw [← ht, List.length_take]; omega, .inr ⟨g, c, cur.toArray, rfl, hb, hg, h1, h2, by simpa using hc, ?_⟩⟩
    simpa using ht
/-- a place is made, and filled -/
theorem ins_list {cur xs : List Value} {n p : Nat} {z y : Value} (hn : xs.length = n) (hp : p ≤ n) (hcur : cur.take (n + 1) = xs ++ [z]) :
    ((splice cur (p + 1) (xs.drop p)).set p y).take (n + 1) = xs.take p ++ y :: xs.drop p := by
  have hl : (cur.take (n + 1)).length = n + 1 := by rw [hcur]; simp [hn]
  rw [List.length_take] at hl
  have hp1 : cur.take (p + 1) = (xs ++ [z]).take (p + 1) := by rw [← hcur, List.take_take, Nat.min_eq_left (by omega)]
  unfold splice
  have hxs : xs.take p = cur.take p := by
    have h1 : (cur.take (n + 1)).take p = (xs ++ [z]).take p := by rw [hcur]
    rw [List.take_take, Nat.min_eq_left (by omega), List.take_append_of_le_length (by omega)] at h1
    exact h1.symm
  have hcl : n + 1 ≤ cur.length := by
    rcases Nat.le_total (n + 1) cur.length with h | h
    · exact h
    · rw [Nat.min_eq_right h] at hl; omega
  have hsp : (cur.take (p + 1)).set p y = xs.take p ++ [y] := by
    rw [hxs]
    apply List.ext_getElem
    · simp; omega
    · intro i h1 h2
      have hi : i < p + 1 := by simpa [show p + 1 ≤ cur.length by omega] using h1
      by_cases hip : i = p
      · subst hip
        rw [List.getElem_append_right (by simp; omega)]
        simp
      · rw [List.getElem_set_ne (by omega), List.getElem_append_left (by simp; omega)]
        simp
  have hlp : (cur.take (p + 1)).length = p + 1 := by rw [List.length_take]; omega
  rw [List.set_append_left _ _ (by omega), hsp]
  have e1 : xs.take p ++ [y] ++ (xs.drop p ++ cur.drop (p + 1 + (xs.drop p).length)) = (xs.take p ++ y :: xs.drop p) ++ cur.drop (p + 1 + (xs.drop p).length) := by simp
  rw [e1]
  have hll : (xs.take p ++ y :: xs.drop p).length = n + 1 := by simp; omega
  rw [← hll, List.take_left]
theorem intsL_ins (l : List Int) (p : Nat) (y : Int) : (intsL l).take p ++ .int .i64 y :: (intsL l).drop p = intsL (l.take p ++ y :: l.drop p) := by
  unfold intsL
  simp [List.map_take, List.map_drop]
theorem intsL_len (l : List Int) : (intsL l).length = l.length := by simp [intsL]
theorem intsL_get (l : List Int) (j : Nat) (h : j < l.length) : (intsL l)[j]? = some (.int .i64 (l.getD j 0)) := by simp [intsL, h]
/-- copy into a row, as one step of a region that draws: nothing else turns -/
theorem step_copy_grown {P : Program} {ops : Array Oper} {o : Oper} {a : Act} {w : World} {K : Act → World → Prop} {Q : Exit → Act → World → Prop} {E : Prop} (hgd : o.guard = none) (d s : Operand) (dT sT : TypeId)
    (ho : o.op = .call { callee := .builtin .copy, args := #[d, s], argTypes := #[dT, sT] }) (elem : TypeId) (hu : P.underlying dT = some (.slice elem)) (hsz : (P.info? elem).map (·.size) = some 1)
    (dp sp : Option Addr) (dLen dCap sLen sCap : Nat) (hd : a.eval d = .slice dp dLen dCap) (hs : a.eval s = .slice sp sLen sCap)
    (g off : Nat) (cur : List Value) (t : TypeId) (hg : w.heap[g]? = some (.cells cur.toArray t (0, 0))) (cs : List Value) (hn : cs.length = Nat.min sLen dLen)
    (hpos : 0 < cs.length → dp = some ⟨g, off, none⟩ ∧ ∃ ad, sp = some ad ∧ ∀ j v, cs[j]? = some v → w.cell? (ad.add j) = some v)
    (hfit : off + cs.length ≤ cur.length) (h1 : ∀ v ∈ cs, v.oneCell' = true)
    (h : ∀ w', Hid (w'.heap[g]? = some (.cells (splice cur off cs).toArray t (0, 0))) → w.grownBy w' (some g) → K (a.put o.dst (goInt cs.length)) w') :
    if Region.wanted o (yielded ops a.tmps) = true then Oper.wp P o a w K Q else E := by
  have hw : Region.wanted o (yielded ops a.tmps) = true := by simp [Region.wanted, hgd]
  rw [if_pos hw]
  by_cases h0 : cs.length = 0
  · obtain rfl : cs = [] := List.eq_nil_of_length_eq_zero h0
    have hrun := run_copy_none (P := P) w dT sT o.type elem dp sp dLen dCap sLen sCap hu hsz (by simpa using hn.symm)
    unfold Oper.wp
    simp [execOp, ho, resolve, invoke, builtin, hd, hs, hrun, Result.andThen]
    exact h w (show _ = _ by simpa [splice] using hg) (grown_refl _ _)
  · obtain ⟨rfl, ad, rfl, hsrc⟩ := hpos (by omega)
    have hrun := run_copy_row (P := P) w dT sT o.type elem g off dLen dCap ad sLen sCap cur.toArray t cs hu hsz hg hn hsrc (by simpa using hfit) h1
    unfold Oper.wp
    simp [execOp, ho, resolve, invoke, builtin, hd, hs, hrun, Result.andThen]
    exact h _ (show _ = _ by simpa [splice] using setRow_heap w g _ _ t _ hg) ⟨rfl, rfl, rfl, by simp, fun k _ hk => setRow_other w g k _ (fun e => hk (by rw [e]))⟩
theorem oneCell_ints (l : List Int) : ∀ v ∈ intsL l, v.oneCell' = true := fun v hv => by
  obtain ⟨x, _, rfl⟩ := List.mem_map.1 hv
  simp [Value.oneCell']
theorem own_succ {w : World} {base : Nat} {e : TypeId} {m : Nat} {v : Value} {xs : List Value} (h : w.ownsRow base e 1 v (m + 1) xs) : ∃ g c, v = .slice (some ⟨g, 0, none⟩) (m + 1) c := by
  rcases h.2 with ⟨_, h0⟩ | ⟨g, cap, cur, hv, _⟩
  · cases h0
  · exact ⟨g, cap, hv⟩
theorem infoI : (Try.prog.info? 3).map (fun i => (i.zero, i.size, i.bytes)) = some (some (.int .i64 0), 1, 8) := by kernel_rfl
/-- where a number goes: ahead of the place all are less, behind it none -/
def gapP (l : List Int) (p : Nat) (y : Int) : Prop := (∀ k, k < p → l.getD k 0 < y) ∧ (∀ k, p ≤ k → k < l.length → y ≤ l.getD k 0)
theorem gap_up {l : List Int} {p : Nat} {y : Int} (h : upL l) (hg : gapP l p y) (hp : p ≤ l.length) (hn : p < l.length → l.getD p 0 ≠ y) : upL (l.take p ++ y :: l.drop p) := by
  refine up_ins h (fun x hx => ?_) (fun x hx => ?_)
  · obtain ⟨k, hk, rfl⟩ := List.getElem_of_mem hx
    rw [List.length_take] at hk
    have := hg.1 k (by omega)
    rw [List.getElem_take]
    simpa [show k < l.length by omega] using this
  · obtain ⟨k, hk, rfl⟩ := List.getElem_of_mem hx
    rw [List.length_drop] at hk
    have h1 := hg.2 (p + k) (by omega) (by omega)
    have h2 := hn (by omega)
    rw [List.getElem_drop]
    have h3 : y ≤ l[p] := by have := hg.2 p (by omega) (by omega); simpa [show p < l.length by omega] using this
    have h4 : l[p] ≠ y := by simpa [show p < l.length by omega] using h2
    rcases Nat.eq_zero_or_pos k with rfl | hk0
    · simp only [Nat.add_zero]; omega
    · have h5 := List.pairwise_iff_getElem.1 h p (p + k) (by omega) (by omega) (by omega)
      omega
/-- all numbers of the first j ranges are in l -/
def endsUp (N : Nat → Nat) (Fs Ts : Nat → Nat → Int) (l : List Int) (a : Nat) : Prop := ∀ a', a' < a → endsIn (N a') (Fs a') (Ts a') l
theorem endsUp_sub {N : Nat → Nat} {Fs Ts : Nat → Nat → Int} {l l' : List Int} {a : Nat} (h : endsUp N Fs Ts l a) (hs : ∀ x, x ∈ l → x ∈ l') : endsUp N Fs Ts l' a :=
  fun a' ha j hj => ⟨hs _ (h a' ha j hj).1, hs _ (h a' ha j hj).2⟩
set_option maxRecDepth 100000 in
set_option maxHeartbeats 4000000 in
theorem ends_any (g0 C : Nat) (P : Nat → Option Addr) (N Cp : Nat → Nat) (Fs Ts : Nat → Nat → Int) (w : World) (hg0 : g0 < w.heap.size)
    (hA : ∀ a, a < 2 → w.cell? ⟨g0, a, none⟩ = some (.slice (P a) (N a) (Cp a))) (hR : ∀ a, a < 2 → Rd w (P a) (N a) (Fs a) (Ts a) ∧ N a ≤ 200) :
    Calls Try.prog 45 #[.slice (some ⟨g0, 0, none⟩) 2 C] w fun e w' => (∃ (v : Value) (l : List Int), e = .returned v ∧ w'.ownsRow w.heap.size 3 1 v l.length (intsL l) ∧ upL l ∧ l.length ≤ 800 ∧ endsUp N Fs Ts l 2) ∧ New w w' := by
  obtain ⟨i0, hi0, hz0, hz1, hz2⟩ := info_parts infoI
  have hA0 := Lib.hid hA
  have hR0 := Lib.hid hR
  clear hA hR
  go_enter Try.func45, Try.ntmps45
  go_wp2
  go_loopw [3, 13] (fun o x wr => ∃ (a : Nat) (l : List Int) (sv : Value), sv = o ∧ x = .int .i64 a ∧ a ≤ 2 ∧ upL l ∧ l.length ≤ 400 * a ∧ Hid (endsUp N Fs Ts l a) ∧ wr.ownsRow w.heap.size 3 1 sv l.length (intsL l) ∧ New w wr) (fun _ x _ => 2 - (intOf x).toNat)
  case atStart => exact ⟨0, [], _, rfl, rfl, by omega, List.Pairwise.nil, by simp, fun a' h => by omega, World.ownsRow_nil _ _ _ _, New.refl _⟩
  case round =>
    obtain ⟨a, l, sv, rfl, rfl, ha, hup, hlen, hend, hown, hnw⟩ := hrel
    by_cases hlt : a < 2
    · have ca := (hnw.cell hg0).trans (hA0.out a hlt)
      obtain ⟨hRa, hNa⟩ := hR0.out a hlt
      have hRa := Lib.hid hRa
      have hali : (a : Int) < 2 := by omega
      obtain ⟨n, hn⟩ : ∃ n, Hid (n = N a) := ⟨_, rfl⟩
      rw [← hn.out] at ca hNa
      go_wp2_with fail
      go_loopw [3, 19] (fun o x wr2 => ∃ (j : Nat) (l2 : List Int) (sv2 : Value), sv2 = o ∧ x = .int .i64 j ∧ j ≤ n ∧ upL l2 ∧ l2.length ≤ 400 * a + 2 * j ∧ Hid (endsUp N Fs Ts l2 a) ∧ Hid (∀ j', j' < j → Fs a j' ∈ l2 ∧ Ts a j' ∈ l2) ∧ wr2.ownsRow w.heap.size 3 1 sv2 l2.length (intsL l2) ∧ New w wr2) (fun _ x _ => n - (intOf x).toNat)
      case atStart => exact ⟨0, l, _, rfl, rfl, by omega, hup, by omega, hend, (fun j' h => by omega), hown, hnw⟩
      case round =>
        clear hup hlen hend hown hnw
        obtain ⟨j, l2, sv2, rfl, rfl, hj, hup, hlen, hend, hdone, hown, hnw⟩ := hrel
        by_cases hlt2 : j < n
        · obtain ⟨b, off, hPb, hb, hcs⟩ := hRa.out.2 (by have := hn.out; omega)
          rw [hPb] at *
          obtain ⟨c0, c1⟩ := hcs j (by have := hn.out; omega)
          have d0 := (hnw.cell hb).trans c0
          have d1 := (hnw.cell hb).trans c1
          have hli : (j : Int) < (n : Int) := by omega
          clear hcs c0 c1
          go_wp2_with fail
          clear d0 d1
          generalize hy0' : Fs a j = y0
          generalize hy1' : Ts a j = y1
          have hy0 := Lib.hid hy0'
          have hy1 := Lib.hid hy1'
          clear hy0' hy1'
          obtain ⟨B1, hB1⟩ : ∃ B1, B1 = wr.heap.size + 1 := ⟨_, rfl⟩
          obtain ⟨W3, hW3⟩ : ∃ W3, W3 = (wr.alloc (.cells #[.int .i64 y0, .int .i64 y1] 30)).alloc (.cells #[.int .i64 y0, .int .i64 y1] 3) := ⟨_, rfl⟩
          rw [← hB1, ← hW3]
          have hN3 : New w W3 := by rw [hW3]; exact (hnw.alloc _).alloc _
          have hown3 : W3.ownsRow w.heap.size 3 1 sv2 l2.length (intsL l2) := by rw [hW3]; exact (hown.alloc _).alloc _
          have hBs : B1 < W3.heap.size := by rw [hW3, hB1]; simp
          have hBr : sv2.ownBlock ≠ some B1 := fun he => by have := (hown.lt _ he).2; omega
          have hbk : W3.heap[B1]? = some (.cells #[.int .i64 y0, .int .i64 y1] 3 (0, 0)) := by rw [hW3, hB1]; exact heap_alloc2_new wr _ _
          go_loopw [3, 29] (fun o x wr3 => ∃ (q : Nat) (l3 : List Int) (sv3 : Value), sv3 = o ∧ x = .int .i64 q ∧ q ≤ 2 ∧ upL l3 ∧ l3.length ≤ 400 * a + 2 * j + q ∧ Hid (∀ x, x ∈ l2 → x ∈ l3) ∧ Hid (0 < q → y0 ∈ l3) ∧ Hid (1 < q → y1 ∈ l3) ∧ wr3.ownsRow w.heap.size 3 1 sv3 l3.length (intsL l3) ∧ sv3.ownBlock ≠ some B1 ∧ B1 < wr3.heap.size ∧ wr3.heap[B1]? = some (.cells #[.int .i64 y0, .int .i64 y1] 3 (0, 0)) ∧ New w wr3) (fun _ x _ => 2 - (intOf x).toNat)
          case atStart => exact ⟨0, l2, _, rfl, rfl, by omega, hup, by omega, (fun x h => h), (fun h => by omega), (fun h => by omega), hown3, hBr, hBs, hbk, hN3⟩
          case round =>
            have hdoneB := hdone
            have hendB := hend
            clear hup hlen hdone hown hnw hN3 hown3 hBr hBs hbk hend hB1 hW3
            obtain ⟨q, l3, sv3, rfl, rfl, hq, hup, hlen, hsub, hin0, hin1, hown, hBr, hBs, hbk, hnw⟩ := hrel
            by_cases hlt3 : q < 2
            · obtain ⟨y, hy, hcy⟩ : ∃ y, Hid ((q = 0 → y = y0) ∧ (q = 1 → y = y1)) ∧ wr.cell? ⟨B1, q, none⟩ = some (.int .i64 y) := by
                have h0 := cell_of_row wr B1 q _ _ _ hbk
                match q, hlt3 with
                | 0, _ => exact ⟨y0, ⟨fun _ => rfl, fun h => by omega⟩, by simpa using h0⟩
                | 1, _ => exact ⟨y1, ⟨fun h => by omega, fun _ => rfl⟩, by simpa using h0⟩
              replace hup := Lib.hid hup
              obtain ⟨m, hm⟩ : ∃ m, Hid (m = l3.length) := ⟨_, rfl⟩
              rw [← hm.out] at hown hlen
              obtain ⟨V, cv, rfl, hmc, _, hV, hcell⟩ := own_open hown
              replace hcell := Lib.hid hcell
              replace hV := Lib.hid hV
              have hqi : (q : Int) < 2 := by omega
              go_wp2_with fail
              go_loop [10] (fun x => ∃ p : Nat, x = .int .i64 p ∧ p ≤ m ∧ Hid (∀ k, p ≤ k → k < l3.length → y ≤ l3.getD k 0)) (fun x => (intOf x).toNat)
              case atStart => exact ⟨m, rfl, Nat.le_refl _, fun k h1 h2 => by have := hm.out; omega⟩
              case round =>
                obtain ⟨p, rfl, hp, hge⟩ := hrel
                by_cases hgo : 0 < p ∧ y ≤ l3.getD (p - 1) 0
                · obtain ⟨hp0, hyz⟩ := hgo
                  obtain ⟨g, rfl, _, _⟩ := hV.out (by omega)
                  have hc := hcell.out g rfl (p - 1) _ (intsL_get l3 (p - 1) (by have := hm.out; omega))
                  have hge2 : Hid (∀ k, p - 1 ≤ k → k < l3.length → y ≤ l3.getD k 0) := fun k h1 h2 => by
                    by_cases hk : k = p - 1
                    · subst hk; exact hyz
                    · exact hge.out k (by omega) h2
                  generalize l3.getD (p - 1) 0 = z at *
                  have hpi : (0 : Int) < (p : Int) := by omega
                  have j0 : (0 : Int) ≤ (p : Int) - 1 := by omega
                  have j1 : (p : Int) - 1 < (m : Int) := by omega
                  have j2 : ((p : Int) - 1).toNat = p - 1 := by omega
                  go_wp2
                  go_round
                  case rel => exact ⟨p - 1, by go_num, by omega, hge2.out⟩
                  case measure => simp [intOf]; omega
                · have hgap : Hid (gapP l3 p y) := by
                    refine ⟨fun k hk => ?_, hge.out⟩
                    have hp0 : 0 < p := by omega
                    have h1 : ¬ y ≤ l3.getD (p - 1) 0 := fun h => hgo ⟨hp0, h⟩
                    rcases Nat.lt_or_ge k (p - 1) with h2 | h2
                    · have h3 := List.pairwise_iff_getElem.1 hup.out k (p - 1) (by have := hm.out; omega) (by have := hm.out; omega) h2
                      have e1 : l3.getD k 0 = l3[k]'(by have := hm.out; omega) := by simp [show k < l3.length by have := hm.out; omega]
                      have e2 : l3.getD (p - 1) 0 = l3[p - 1]'(by have := hm.out; omega) := by simp [show p - 1 < l3.length by have := hm.out; omega]
                      omega
                    · have : k = p - 1 := by omega
                      subst this
                      omega
                  clear hgo hge
                  have hin : ∀ l4 : List Int, (∀ x, x ∈ l3 → x ∈ l4) → y ∈ l4 → Hid (∀ x, x ∈ l2 → x ∈ l4) ∧ Hid (0 < q + 1 → y0 ∈ l4) ∧ Hid (1 < q + 1 → y1 ∈ l4) := fun l4 hs hy4 =>
                    ⟨fun x hx => hs x (hsub.out x hx),
                     fun _ => (by rcases Nat.eq_zero_or_pos q with h | h
                                  · rw [← hy.out.1 h]; exact hy4
                                  · exact hs _ (hin0.out h)),
                     fun h => (by rw [← hy.out.2 (by omega)]; exact hy4)⟩
                  by_cases heq : p < m ∧ l3.getD p 0 = y
                  · obtain ⟨hpm, he⟩ := heq
                    obtain ⟨g, rfl, _, _⟩ := hV.out (by omega)
                    have hc := hcell.out g rfl p _ (intsL_get l3 p (by have := hm.out; omega))
                    have hmem : y ∈ l3 := by rw [← he, show l3.getD p 0 = l3[p]'(by have := hm.out; omega) by simp [show p < l3.length by have := hm.out; omega]]; exact List.getElem_mem _
                    obtain ⟨k1, k2, k3⟩ := hin l3 (fun x h => h) hmem
                    rw [he] at hc
                    clear he hmem hin
                    have hpi : (p : Int) < (m : Int) := by omega
                    rcases Nat.eq_zero_or_pos p with hp0 | hp0
                    · subst hp0
                      go_wp2
                      go_roundw
                      case rel => exact ⟨q + 1, l3, _, rfl, by go_num, by omega, hup.out, by have := hm.out; omega, k1, k2, k3, by rw [← hm.out]; exact hown, hBr, hBs, hbk, hnw⟩
                      case measure => simp [intOf]; omega
                    · have hc0 := hcell.out g rfl (p - 1) _ (intsL_get l3 (p - 1) (by have := hm.out; omega))
                      have hzl := hgap.out.1 (p - 1) (by omega)
                      generalize l3.getD (p - 1) 0 = z at *
                      have hpz : (0 : Int) < (p : Int) := by omega
                      have j0 : (0 : Int) ≤ (p : Int) - 1 := by omega
                      have j1 : (p : Int) - 1 < (m : Int) := by omega
                      have j2 : ((p : Int) - 1).toNat = p - 1 := by omega
                      go_wp2
                      go_roundw
                      case rel => exact ⟨q + 1, l3, _, rfl, by go_num, by omega, hup.out, by have := hm.out; omega, k1, k2, k3, by rw [← hm.out]; exact hown, hBr, hBs, hbk, hnw⟩
                      case measure => simp [intOf]; omega
                  · have hup4 := Lib.hid (gap_up hup.out hgap.out (by have := hm.out; omega) (fun h he => heq ⟨by have := hm.out; omega, he⟩))
                    obtain ⟨k1, k2, k3⟩ := hin (l3.take p ++ y :: l3.drop p) (fun x h => (mem_ins x).2 (.inr h)) ((mem_ins y).2 (.inl rfl))
                    clear hin
                    have hways : (p = 0 ∧ p < m) ∨ (p = 0 ∧ p = m) ∨ (0 < p ∧ p < m) ∨ (0 < p ∧ p = m) := by omega
                    have hinfo : (0 < p → ∃ g z, V = some ⟨g, 0, none⟩ ∧ wr.cell? ⟨g, p - 1, none⟩ = some (.int .i64 z) ∧ z < y) := fun h => by
                      obtain ⟨g, hg, _, _⟩ := hV.out (by omega)
                      exact ⟨g, _, hg, hcell.out g hg (p - 1) _ (intsL_get l3 (p - 1) (by have := hm.out; omega)), hgap.out.1 (p - 1) (by omega)⟩
                    have hinf2 : (p < m → ∃ g z, V = some ⟨g, 0, none⟩ ∧ wr.cell? ⟨g, p, none⟩ = some (.int .i64 z) ∧ (z == y) = false) := fun h => by
                      obtain ⟨g, hg, _, _⟩ := hV.out (by omega)
                      exact ⟨g, _, hg, hcell.out g hg p _ (intsL_get l3 p (by have := hm.out; omega)), by simpa using fun he => heq ⟨h, he⟩⟩
                    replace hinfo := Lib.hid hinfo
                    replace hinf2 := Lib.hid hinf2
                    clear heq
                    have hpre : (∃ g, V = some ⟨g, 0, none⟩) ∨ V = V := .inr rfl
                    clear hpre
                    rcases hways with ⟨hp0, hpm⟩ | ⟨hp0, hpm⟩ | ⟨hp0, hpm⟩ | ⟨hp0, hpm⟩
                    case' inl =>
                      obtain ⟨g, z2, rfl, hc1, hzz⟩ := hinf2.out hpm
                      have hpi : (p : Int) < (m : Int) := by omega
                      have hpz : ¬ (0 : Int) < (p : Int) := by omega
                      clear hp0
                    case' inr.inl =>
                      have hpi : ¬ (p : Int) < (m : Int) := by omega
                      have hpz : ¬ (0 : Int) < (p : Int) := by omega
                      have hpm2 : m ≤ p := by omega
                      clear hpm hp0
                    case' inr.inr.inl =>
                      obtain ⟨g, z, rfl, hc0, hzy⟩ := hinfo.out hp0
                      obtain ⟨_, z2, hg2, hc1, hzz⟩ := hinf2.out hpm
                      cases hg2
                      have hpz : (0 : Int) < (p : Int) := by omega
                      have hpi : (p : Int) < (m : Int) := by omega
                      have j0 : (0 : Int) ≤ (p : Int) - 1 := by omega
                      have j1 : (p : Int) - 1 < (m : Int) := by omega
                      have j2 : ((p : Int) - 1).toNat = p - 1 := by omega
                    case' inr.inr.inr =>
                      obtain ⟨g, z, rfl, hc0, hzy⟩ := hinfo.out hp0
                      have hpz : (0 : Int) < (p : Int) := by omega
                      have hpi : ¬ (p : Int) < (m : Int) := by omega
                      have j0 : (0 : Int) ≤ (p : Int) - 1 := by omega
                      have j1 : (p : Int) - 1 < (m : Int) := by omega
                      have j2 : ((p : Int) - 1).toNat = p - 1 := by omega
                      have hpm2 : m ≤ p := by omega
                      clear hpm
                    all_goals
                      clear hinfo hinf2
                      go_wp2_with (at_builtin; refine wpList_append_lies _ rfl _ _ 63 rfl w.heap.size 3 i0 _ 1 8 Try.underlying63 hi0 hz0 hz1 hz2 rfl (by decide) (Value.slice _ m cv) m (intsL l3) rfl (hown.alloc _) ⟨wr.heap.size, 0, none⟩ 1 1 [.int .i64 0] rfl rfl (World.news_of_block (cs := #[.int .i64 _]) (t := 3) (fr := (0, 0)) (heap_alloc_new wr _)) (by simp [Value.oneCell']) (by omega) (by unfold maxLen; omega) (by omega) (by have := hnw.size; simp; omega) (wr.heap.size + 1) (by simp) ?_; intro g3 c3 w3 hown3 hgrow3 hat3 hlt3')
                      obtain ⟨hbg, hmc3, _, cur, hcur, hcl, htk⟩ := own_cur hown3
                      have hN3 := hnw.append' hgrow3 (fun g hg => (hown.lt g hg).1)
                      have hbk3 : w3.heap[B1]? = some (.cells #[.int .i64 y0, .int .i64 y1] 3 (0, 0)) := (hgrow3.block B1 (by simp; omega) (Ne.symm hBr)).trans ((Below.heap_alloc wr _ B1 hBs).trans hbk)
                      have hg3B : g3 ≠ B1 := fun he => by
                        rcases hat3 with h | h
                        · exact hBr (he ▸ h)
                        · omega
                      obtain ⟨X, hX⟩ : ∃ X, X = (intsL l3).drop p := ⟨_, rfl⟩
                      have hXl : X.length = m - p := by rw [hX, List.length_drop, intsL_len, ← hm.out]
                      have hX1 : ∀ v ∈ X, v.oneCell' = true := fun v hv => by
                        rw [hX] at hv
                        exact oneCell_ints l3 v (List.mem_of_mem_drop hv)
                      have hXc : ∀ j v, X[j]? = some v → w3.drew.cell? ((⟨g3, p, none⟩ : Addr).add j) = some v := fun j v hv => by
                        have h1 : (intsL l3 ++ [.int .i64 0])[p + j]? = some v := by
                          rw [hX, List.getElem?_drop] at hv
                          rw [List.getElem?_append_left (List.getElem?_eq_some_iff.1 hv).1]
                          exact hv
                        have h2 := hown3.cells rfl (p + j) v h1
                        rw [add_cell] at h2 ⊢
                        simpa using h2
                      replace hXn : Hid (X.length = Nat.min (m + 1 - p) (m - p)) := by
                        show _ = _
                        rw [hXl]
                        exact (Nat.min_eq_right (by omega)).symm
                      have hXf : p + 1 + X.length ≤ cur.length := by omega
                      replace hX := Lib.hid hX
                      replace hXl := Lib.hid hXl
                      replace htk := Lib.hid htk
                      replace hcl := Lib.hid hcl
                      clear hgrow3 hat3 hlt3'
                      have hw1 : IntKind.i64.wrap ((p : Int) + 1) = (p : Int) + 1 := IntWalk.i64_in _ (by omega)
                      have hw2 : (0 : Int) ≤ (p : Int) + 1 := by omega
                      have hw3 : ((p : Int) + 1).toNat = p + 1 := by omega
                      have hw4 : p + 1 ≤ m + 1 := by omega
                      have hw5 : p ≤ m + 1 := by omega
                      have hw6 : (p : Int) + 1 ≤ (m : Int) + 1 := by omega
                      have hw7 : (p : Int) ≤ (m : Int) + 1 := by omega
                      have hw8 : ¬ (c3 = p) := by omega
                      by_cases hcp : c3 = p + 1
                      · subst hcp
                        first
                        | (exfalso; omega)
                        | (have hX0 : X.length = 0 := by rw [hXl.out]; omega
                           replace hX0 := Lib.hid hX0
                           go_region_law (refine step_copy_grown (by rfl) (.tmp 66) (.tmp 69) 63 63 (by rfl) 3 Try.underlying63 (by rw [hi0]; simp [hz1]) (some ⟨g3, 0, none⟩) (some ⟨g3, p, none⟩) (m - p) (0) (m + 1 - p) (1) (by simp [Act.eval, Act.put] <;> omega) (by simp [Act.eval, Act.put] <;> omega) g3 (p + 1) cur 3 hcur X hXn.out (fun h => absurd h (by have := hX0.out; omega)) hXf hX1 ?_; intro w4 hg4 hgr4)
                           have hN4 := hN3.drew.grown1 hgr4 hbg
                           have hbk4 : w4.heap[B1]? = some (.cells #[.int .i64 y0, .int .i64 y1] 3 (0, 0)) := (hgr4.block B1 (Blk.lt (w := w3) (t := 3) hbk3) (fun he => hg3B (by cases he; rfl))).trans hbk3
                           have hspl : (splice cur (p + 1) X).length = (p + 1) := by rw [length_splice _ _ _ (by have := hXl.out; have := hcl.out; omega), hcl.out]
                           have hcp4 : ∃ u, w4.cell? ⟨g3, p, none⟩ = some u := by
                             rw [cell_of_row w4 g3 p _ _ _ hg4.out]
                             exact ⟨(splice cur (p + 1) X)[p]'(by omega), by simp [show p < (splice cur (p + 1) X).length by omega]⟩
                           obtain ⟨u4, hcp4⟩ := hcp4
                           have hfp4 := Blk.frozen (w := w4) (t := 3) hg4.out p
                           have hins0 := ins_list (y := .int .i64 y) (by rw [intsL_len, ← hm.out]) hp htk.out
                           rw [intsL_ins, ← hX.out] at hins0
                           have hins := Lib.hid hins0
                           clear hins0
                           have hput := Blk.put (t := 3) hg4.out p (.int .i64 y)
                           rw [List.setIfInBounds_toArray] at hput
                           have hown5 := Lib.hid (own_mk (w' := w4.setCell ⟨g3, p, none⟩ (.int .i64 y)) (xs' := intsL (l3.take p ++ y :: l3.drop p)) hown3 hput (by simpa using hspl) hins.out)
                           have hlt4 : B1 < w4.heap.size := Blk.lt (t := 3) hbk4
                           clear hput
                           go_wp2
                           go_roundw
                           case rel => exact ⟨q + 1, l3.take p ++ y :: l3.drop p, _, rfl, by go_num, by omega, hup4.out, by have := hm.out; simp; omega, k1, k2, k3, by rw [show (l3.take p ++ y :: l3.drop p).length = m + 1 by have := hm.out; simp; omega]; exact hown5.out, (fun he => hg3B (by simpa [Value.ownBlock] using he)), by simpa [World.setCell] using hlt4, (Blk.far (t := 3) hbk4 (fun he => hg3B he.symm) _), hN4.set hbg _⟩
                           case measure => simp [intOf]; omega)
                      · have hw9 : ¬ (c3 = p + 1) := hcp
                        go_region_law (refine step_copy_grown (by rfl) (.tmp 66) (.tmp 69) 63 63 (by rfl) 3 Try.underlying63 (by rw [hi0]; simp [hz1]) (some ⟨g3, p + 1, none⟩) (some ⟨g3, p, none⟩) (m - p) (c3 - (p + 1)) (m + 1 - p) (c3 - p) (by simp [Act.eval, Act.put] <;> omega) (by simp [Act.eval, Act.put] <;> omega) g3 (p + 1) cur 3 hcur X hXn.out (fun _ => ⟨rfl, _, rfl, hXc⟩) hXf hX1 ?_; intro w4 hg4 hgr4)
                        have hN4 := hN3.drew.grown1 hgr4 hbg
                        have hbk4 : w4.heap[B1]? = some (.cells #[.int .i64 y0, .int .i64 y1] 3 (0, 0)) := (hgr4.block B1 (Blk.lt (w := w3) (t := 3) hbk3) (fun he => hg3B (by cases he; rfl))).trans hbk3
                        have hspl : (splice cur (p + 1) X).length = c3 := by rw [length_splice _ _ _ (by have := hXl.out; have := hcl.out; omega), hcl.out]
                        have hcp4 : ∃ u, w4.cell? ⟨g3, p, none⟩ = some u := by
                          rw [cell_of_row w4 g3 p _ _ _ hg4.out]
                          exact ⟨(splice cur (p + 1) X)[p]'(by omega), by simp [show p < (splice cur (p + 1) X).length by omega]⟩
                        obtain ⟨u4, hcp4⟩ := hcp4
                        have hfp4 := Blk.frozen (w := w4) (t := 3) hg4.out p
                        have hins0 := ins_list (y := .int .i64 y) (by rw [intsL_len, ← hm.out]) hp htk.out
                        rw [intsL_ins, ← hX.out] at hins0
                        have hins := Lib.hid hins0
                        clear hins0
                        have hput := Blk.put (t := 3) hg4.out p (.int .i64 y)
                        rw [List.setIfInBounds_toArray] at hput
                        have hown5 := Lib.hid (own_mk (w' := w4.setCell ⟨g3, p, none⟩ (.int .i64 y)) (xs' := intsL (l3.take p ++ y :: l3.drop p)) hown3 hput (by simpa using hspl) hins.out)
                        have hlt4 : B1 < w4.heap.size := Blk.lt (t := 3) hbk4
                        clear hput
                        go_wp2
                        go_roundw
                        case rel => exact ⟨q + 1, l3.take p ++ y :: l3.drop p, _, rfl, by go_num, by omega, hup4.out, by have := hm.out; simp; omega, k1, k2, k3, by rw [show (l3.take p ++ y :: l3.drop p).length = m + 1 by have := hm.out; simp; omega]; exact hown5.out, (fun he => hg3B (by simpa [Value.ownBlock] using he)), by simpa [World.setCell] using hlt4, (Blk.far (t := 3) hbk4 (fun he => hg3B he.symm) _), hN4.set hbg _⟩
                        case measure => simp [intOf]; omega
            · have hq2 : q = 2 := by omega
              subst hq2
              have hdone2 : Hid (∀ j', j' < j + 1 → Fs a j' ∈ l3 ∧ Ts a j' ∈ l3) := fun j' h => by
                rcases Nat.lt_or_ge j' j with h1 | h1
                · exact ⟨hsub.out _ (hdoneB.out j' h1).1, hsub.out _ (hdoneB.out j' h1).2⟩
                · obtain rfl : j' = j := by omega
                  rw [hy0.out, hy1.out]
                  exact ⟨hin0.out (by omega), hin1.out (by omega)⟩
              have hend2 : Hid (endsUp N Fs Ts l3 a) := endsUp_sub hendB.out hsub.out
              clear hdoneB hendB hsub hin0 hin1
              go_wp2
              go_roundw
              case rel => exact ⟨j + 1, l3, _, rfl, by go_num, by omega, hup, by omega, hend2, hdone2, hown, hnw⟩
              case measure => simp [intOf]; omega
        · have hjn : j = n := by omega
          subst hjn
          have hend2 : Hid (endsUp N Fs Ts l2 (a + 1)) := fun a' h => by
            rcases Nat.lt_or_ge a' a with h1 | h1
            · exact hend.out a' h1
            · obtain rfl : a' = a := by omega
              intro j' hj'
              exact hdone.out j' (by have := hn.out; omega)
          clear hend hdone
          go_wp2
          go_roundw
          case rel => exact ⟨a + 1, l2, _, rfl, by go_num, by omega, hup, by omega, hend2, hown, hnw⟩
          case measure => simp [intOf]; omega
    · have ha2 : a = 2 := by omega
      subst ha2
      go_wp2
      go_ret
      exact ⟨⟨_, l, rfl, hown, hup, by omega, hend.out⟩, hnw⟩
end Go.Proofs.Ythkgcbjfgglciaa.spans
