/-
  Contract of get.
-/
import Derived.Test.YthjjchlibbheaaaDriveBack
namespace Go.Proofs.Ythjjchlibbheaaa.drive
open Go.ChangeShapes Go.WideShapes Go.ChangeAt Go.RowKit Go.Proofs.Ythjjchlibbheaaa.kit Go.Proofs.Ythjjchlibbheaaa.each Go.Deep
set_option linter.unusedVariables false
set_option maxRecDepth 100000
attribute [local go_sem] Oper.semAt_some
theorem lastN_find (a : Nat) (ws : List (Nat × (Nat → Nat))) (r : Nat) (q : List Nat) : ∀ m, m ≤ ws.length → (∀ j, r ≤ j → j < m → (ws.getD j noP).1 ≠ a) → r ≤ m → lastN a ws m = lastN a ws r
  | 0, _, _, h => by have : r = 0 := by omega
                     rw [this]
  | m + 1, hm, hj, h => by
    by_cases e : r = m + 1
    · rw [e]
    · rw [lastN, if_neg (hj m (by omega) (by omega))]
      exact lastN_find a ws r q m (by omega) (fun j h1 h2 => hj j h1 (by omega)) (by omega)
theorem preB_mem {m r j : Nat} : j ∈ preB m r ↔ r ≤ j ∧ j < m := by
  unfold preB
  rw [List.mem_reverse, List.mem_drop_iff_getElem]
  constructor
  · rintro ⟨i, h1, h2⟩
    simp at h1 h2
    omega
  · rintro ⟨h1, h2⟩
    exact ⟨j - r, by simp; omega, by simp; omega⟩
theorem preB_of {m i : Nat} {q : List Nat} (h : q ++ [i] <+: (List.range m).reverse) : i < m ∧ q = preB m (i + 1) := by
  obtain ⟨t, ht⟩ := h
  have hl : q.length < m := by
    have := congrArg List.length ht
    simp at this
    omega
  have hi : i = m - 1 - q.length := by
    have h1 := congrArg (fun l => l[q.length]?) ht
    simp [List.getElem?_append] at h1
    rw [List.getElem?_reverse (by simpa using hl)] at h1
    simp at h1
    rw [List.getElem?_range (by omega)] at h1
    simp at h1
    omega
  refine ⟨by omega, ?_⟩
  have h2 := preB_step (m := m) (r := i) (by omega)
  have h3 := preB_prefix m (i + 1)
  have h4 : q <+: (List.range m).reverse := ⟨[i] ++ t, by rw [← ht]; simp⟩
  exact List.IsPrefix.eq_of_length (List.prefix_of_prefix_length_le h4 h3 (by unfold preB; simp; omega)) (by unfold preB; simp; omega)
theorem cell_more {w : World} {a : Addr} {v : Value} (h : w.cell? a = some v) (o : Obj) : (w.alloc o).cell? a = some v := (((New.refl w).alloc o).cell (lt_of_cell h)).trans h
theorem frozen_more {w : World} {a : Addr} (h : w.frozen? a = false) (hl : a.block < w.heap.size) (o : Obj) : (w.alloc o).frozen? a = false := (((New.refl w).alloc o).frozen hl).trans h
theorem zip2 (p q : Tmp) (a b : Value) (arr : Array Value) : (#[p, q].zip #[a, b]).foldl (fun t (x : Tmp × Value) => t.setIfInBounds x.1 x.2) arr = (arr.setIfInBounds p a).setIfInBounds q b := by simp
/-- a reply's data -/
structure GI (w0 : World) (at_ : Nat) (W : World) : Prop where
  nw : New w0 W
  b0 : Boxed W w0.heap.size 3 (.int .i64 at_)
  b1 : Blk W (w0.heap.size + 1) 95 #[.int .i64 0, .slice none 0 0]
theorem GI.new {w0 W W' : World} {at_ : Nat} (h : GI w0 at_ W) (hn : New W W') : GI w0 at_ W' := ⟨h.nw.next hn, (hn.block _ h.b0.lt).trans h.b0, h.b1.new hn⟩
/-- what get answers -/
def GetP (r : Int × Option (Nat → Nat)) (w : World) (e : Ending) (w' : World) : Prop := (∃ rv, e = .returned (.agg #[.int .i64 r.1, rv]) ∧ Dat w' rv r.2) ∧ New w w'
set_option maxHeartbeats 4000000 in
theorem get_any (base d g n m at_ : Nat) (s : DS) (pv : Nat → Value) (wv : Value) (dv : Nat → Value) (w : World) (h : Dr base d g n s.pl s.br s.ws s.dead pv wv dv w) (hat : at_ < n) (hn : n ≤ 512) (hm : s.ws.length = m) (hm3 : m ≤ 300) :
    Calls Try.prog 62 #[.pointer (some ⟨d, 0, none⟩), .int .i64 at_] w (GetP (getS s at_) w) := by
  have hone : ∀ i, i < m → (dv i).oneCell' = true := fun i hi => by
    obtain ⟨b, c, hv, _⟩ := h.wd i (by omega)
    rw [hv]
    rfl
  obtain ⟨wA, wc, rfl, hw1, hw2, hwA, hwc⟩ := own_open h.wo
  have hH := Lib.hid h
  have hmH := Lib.hid hm
  have c0 := h.bk.cell 1
  simp at c0
  rw [hm] at c0 hw1
  have hdl := h.bk.lt
  have hG0 : GI w at_ ((w.alloc (.cells #[.int .i64 at_] 3)).alloc (.cells #[.int .i64 0, .slice none 0 0] 95)) := by
    refine ⟨((New.refl w).alloc _).alloc _, (Boxed.new w _ _).alloc _, ?_⟩
    have := Blk.fresh (w.alloc (.cells #[.int .i64 at_] 3)) 95 #[.int .i64 0, .slice none 0 0]
    simpa using this
  replace hG0 := Lib.hid hG0
  have hoH := Lib.hid hone
  clear h hm hwA hwc hone
  refine (callsIn_wide (n := 3)).1 ?_
  refine callsIn_of_wp_marks Try.func62 rfl trivial ?_ rfl; simp only [Try.ntmps62, List.size_toArray, List.length_cons, List.length_nil, Nat.reduceAdd, Nat.reduceSub, Array.replicate_succ, Array.replicate_zero, List.push_toArray, List.append_toArray, List.nil_append, List.cons_append]
  refine wpIn_wide.2 ?_
  go_wp2_with fail
  refine (Backward_any _ _ _ _).mono ?_
  rintro e w1 ⟨rfl, rfl⟩
  go_wp2_with fail
  obtain ⟨Wl, hWl⟩ : ∃ Wl, Wl = ((w.alloc (.cells #[.int .i64 at_] 3)).alloc (.cells #[.int .i64 0, .slice none 0 0] 95)).alloc (.cells #[.slice wA m wc] 146) := ⟨_, rfl⟩
  have hnl : New w Wl := by rw [hWl]; exact (((New.refl w).alloc _).alloc _).alloc _
  have hsl : Wl.heap.size = w.heap.size + 3 := by rw [hWl]; simp
  have hGl : Hid (GI w at_ Wl) := by rw [hWl]; exact hG0.out.new ((New.refl _).alloc _)
  have hsb : Boxed Wl (w.heap.size + 1 + 1) 146 (.slice wA m wc) := by
    rw [hWl]
    have := Boxed.new ((w.alloc (.cells #[.int .i64 at_] 3)).alloc (.cells #[.int .i64 0, .slice none 0 0] 95)) 146 (.slice wA m wc)
    simpa using this
  have hDl := Lib.hid (hH.out.new hnl)
  rw [← hWl]
  have hst := back_stops (nn := 3) s.ws dv base (w.heap.size + 1 + 1) m (.slice wA m wc) Wl hmH.out hm3 (by have := hDl.out.wo; rw [hmH.out] at this; exact this) hsb hoH.out
  have hKl : ∀ k, KB (w.heap.size + 1 + 1) (.slice wA m wc) k → k < Wl.heap.size := fun k hk => by
    rcases hk with rfl | hk
    · omega
    · have := hDl.out.wo
      rw [hmH.out] at this
      exact (this.lt k hk).2
  clear hWl hG0 c0
  refine (wpIn_wide (n := 3)).1 ?_
  refine each.wpIn_each (gf := 108) (lb := #[.pointer (some ⟨w.heap.size + 1 + 1, 0, none⟩)]) rfl (enters_of Try.func108 (by kernel_rfl) rfl) hst (Below.refl _ _) hKl (fun B x v W hv => by rw [hv.2]; rfl)
    (fun pre W => New Wl W ∧ ∀ j ∈ pre, (s.ws.getD j noP).1 ≠ at_)
    (fun cd pre W => cd = .ret ∧ ∃ q i rv, pre = q ++ [i] ∧ (∀ j ∈ q, (s.ws.getD j noP).1 ≠ at_) ∧ (s.ws.getD i noP).1 = at_ ∧ New w W ∧ Blk W (w.heap.size + 1) 95 #[.int .i64 0, rv] ∧ SdN (Wl.heap.size + 2) W rv (s.ws.getD i noP).2)
    ?bears ?xbears ?first
    (fun x a' W' => ∃ pb, Wl.heap.size + 2 ≤ pb ∧ Blk W' pb 152 #[.int .i64 (s.ws.getD x noP).1, dv x] ∧ a' = { tmps := #[.pointer (some ⟨d, 0, none⟩), .int .i64 at_, undef, .pointer (some ⟨w.heap.size, 0, none⟩), .pointer (some ⟨w.heap.size + 1, 0, none⟩), undef, .pointer (some ⟨pb, 0, none⟩), undef, .pointer (some ⟨d, 0, none⟩), .pointer (some ⟨d, 0, none⟩), .pointer (some ⟨d, 1, none⟩), .slice wA m wc, .func (.func 108) #[] #[.pointer (some ⟨w.heap.size + 1 + 1, 0, none⟩)], .int .i64 x, .agg #[.int .i64 (s.ws.getD x noP).1, dv x], undef, undef, undef, undef, undef, undef, undef, undef, undef, undef, undef, undef, undef, undef, undef, undef, undef, undef, undef, undef, undef, undef, undef, undef, undef, undef, undef, undef, undef], defers := [] })
    ?abears ?assign ?body ?done ?stop
  case bears =>
    rintro pre A B row ⟨h1, h2⟩ hg hr
    exact ⟨h1.grown hg fun r e => (hr r e).1, h2⟩
  case xbears =>
    rintro cd pre A B row ⟨h1, q, i, rv, h2, h3, h4, h5, h6, h7⟩ hg hr
    exact ⟨h1, q, i, rv, h2, h3, h4, h5.grown hg fun r e => by have := hr r e; omega, h6.grown hg fun e => by have := hr _ e; omega, h7.grown hg fun r e => by have := hr r e; omega⟩
  case first => exact ⟨New.refl _, fun j hj => by simp at hj⟩
  case abears =>
    rintro x a' A B row ⟨pb, h1, h2, h3⟩ hg hr
    exact ⟨pb, h1, h2.grown hg fun e => by have := hr _ e; omega, h3⟩
  case assign =>
    rintro l pre x v W hz ⟨h1, h2⟩ hv K hK
    obtain ⟨hxl, rfl⟩ := hv
    obtain ⟨sb2, sc2, hsv, _⟩ := hDl.out.wd x hxl
    rw [hsv] at hK ⊢
    rw [zip2]
    simp only [List.setIfInBounds_toArray, List.set_cons_zero, List.set_cons_succ]
    obtain ⟨q, hq⟩ : ∃ q, Hid (q = (s.ws.getD x noP).1) := ⟨_, rfl⟩
    rw [← hq.out] at hK ⊢
    gi_wp2_with fail
    exact hK _ _ ⟨W.heap.size, hz, Blk.fresh _ _ _, rfl⟩ ⟨h1.alloc _, h2⟩ ((New.refl W).alloc _)
  case body =>
    rintro l pre x a' W hz ⟨hnw, h2⟩ hpre ⟨pb, hpb, hpk, rfl⟩
    obtain ⟨hxm, _⟩ := preB_of hpre
    have hG := hGl.out.new hnw
    have hD := hDl.out.new hnw
    have hsd := hD.wd x (by rw [hmH.out]; exact hxm)
    obtain ⟨q, hq⟩ : ∃ q, Hid (q = (s.ws.getD x noP).1) := ⟨_, rfl⟩
    obtain ⟨F, hF⟩ : ∃ F, Hid (F = (s.ws.getD x noP).2) := ⟨_, rfl⟩
    rw [← hF.out] at hsd
    rw [← hq.out] at hpk ⊢
    obtain ⟨sb2, sc2, hsv, k1, k2, k3⟩ := hsd
    rw [hsv] at hpk ⊢
    have hcl := Lib.hid (fun (w' : World) (hn : New W w') => Clone_sd (.slice (some ⟨sb2, 0, none⟩) 128 sc2) F w' ⟨sb2, sc2, rfl, k1, k2, k3.new hn⟩)
    have e0 := hpk.cell 0
    have e1 := hpk.cell 1
    have e2 := hG.b0.cell
    simp at e0 e1
    have hGH := Lib.hid hG
    have hWv : Hid (∀ r, (Value.slice wA m wc).ownBlock = some r → r < w.heap.size) := fun r hr => by
      have := hH.out.wo
      rw [hmH.out] at this
      exact (this.lt r hr).2
    have h2H := Lib.hid h2
    have hnwH := Lib.hid hnw
    clear hpk k3 hD hG h2 hst
    by_cases hqa : q = at_
    · have hqi : (q : Int) = (at_ : Int) := by omega
      have hfin : Hid (∀ (w3 : World) (v' : Value), New W w3 → SdN W.heap.size w3 v' F →
          Held (KB (w.heap.size + 1 + 1) (.slice wA m wc)) Wl.heap.size (Wl.heap.size + 2 + 0) W ((w3.setCell ⟨w.heap.size + 1, 0, none⟩ (.int .i64 0)).setCell ⟨w.heap.size + 1, 1, none⟩ v') ∧
          New w ((w3.setCell ⟨w.heap.size + 1, 0, none⟩ (.int .i64 0)).setCell ⟨w.heap.size + 1, 1, none⟩ v') ∧ Blk ((w3.setCell ⟨w.heap.size + 1, 0, none⟩ (.int .i64 0)).setCell ⟨w.heap.size + 1, 1, none⟩ v') (w.heap.size + 1) 95 #[.int .i64 0, v'] ∧
          SdN (Wl.heap.size + 2) ((w3.setCell ⟨w.heap.size + 1, 0, none⟩ (.int .i64 0)).setCell ⟨w.heap.size + 1, 1, none⟩ v') v' F) := fun w3 v' hn hs => by
        have g1 := grown_set w3 (w.heap.size + 1) 0 (.int .i64 0)
        have g2 := grown_set (w3.setCell ⟨w.heap.size + 1, 0, none⟩ (.int .i64 0)) (w.heap.size + 1) 1 v'
        have hkb : ∀ r, (some (w.heap.size + 1) : Option Nat) = some r → ¬ KB (w.heap.size + 1 + 1) (.slice wA m wc) r ∧ (r < Wl.heap.size ∨ Wl.heap.size + 2 + 0 ≤ r) := fun r e => by
          cases e
          refine ⟨fun hk => ?_, by omega⟩
          rcases hk with hk | hk
          · omega
          · have := hWv.out _ hk; omega
        obtain ⟨b, c, t1, t2, t3, t4, t5⟩ := hs
        have hs' : SdN (Wl.heap.size + 2) w3 v' F := ⟨b, c, t1, t2, t3, t4, by omega⟩
        refine ⟨((⟨hn.size, fun k _ hk => hn.block k hk⟩ : Held _ _ _ W w3).trans (Held.grown g1 hkb)).trans (Held.grown g2 hkb), ?_, ?_, (hs'.grown g1 fun r e => by cases e; omega).grown g2 fun r e => by cases e; omega⟩
        · exact ((hGH.out.nw.next hn).set (by show w.heap.size ≤ w.heap.size + 1; omega) _).set (by show w.heap.size ≤ w.heap.size + 1; omega) _
        · exact ((hGH.out.b1.new hn).put 0 (.int .i64 0)).put 1 v'
      clear hsv
      gi_wp2_with fail
      refine ⟨trivial, (CallsIn.inRound l (callsIn_wide.2 (hcl.out _ (New.refl W)))).mono ?_⟩
      rintro e w3 ⟨v', rfl, hs3, hn3⟩
      have r0 := (hGH.out.b1.new hn3).cell 0
      have r1 := (hGH.out.b1.new hn3).cell 1
      have r2 := (hGH.out.b1.new hn3).frozen 0
      have r3 := (hGH.out.b1.new hn3).frozen 1
      simp at r0 r1
      obtain ⟨p1, p2, p3, p4⟩ := hfin.out w3 v' hn3 hs3
      have hp := Lib.hid (And.intro p1 (And.intro p2 (And.intro p3 p4)))
      have hvo : v'.oneCell' = true := by
        obtain ⟨b, c, t1, _⟩ := hs3
        rw [t1]
        rfl
      obtain ⟨vb, vc, rfl, _⟩ := hs3
      clear p1 p2 p3 p4
      gi_wp2_with fail
      exact ⟨hp.out.1, rfl, pre, x, _, rfl, h2H.out, by rw [← hq.out]; exact hqa, hp.out.2.1, hp.out.2.2.1, by rw [← hF.out]; exact hp.out.2.2.2⟩
    · have hqi : ((q : Int) == (at_ : Int)) = false := by simp; omega
      have hneg : Hid (∀ j ∈ pre ++ [x], (s.ws.getD j noP).1 ≠ at_) := fun j hj => by
        rcases List.mem_append.1 hj with h | h
        · exact h2H.out j h
        · simp at h
          subst h
          rw [← hq.out]
          exact hqa
      clear hsv
      gi_wp2_with fail
      exact ⟨Held.refl _, hnwH.out, hneg.out⟩
  case done =>
    rintro W ⟨hnw, hall⟩ hD
    have hG := hGl.out.new hnw
    have hDr := hDl.out.new hnw
    have hno : lastN at_ s.ws s.ws.length = none := by
      rw [hmH.out, lastN_find at_ s.ws 0 [] m (by rw [hmH.out]; exact Nat.le_refl _) (fun j _ h => hall j (by simp [h])) (Nat.zero_le _)]
      rfl
    have hget : Hid (getS s at_ = plateR s at_) := by show _ = _; unfold getS; rw [hno]
    obtain ⟨k0, k1⟩ := hDr.pt.cell hat
    have e0 := hDr.bk.cell 0
    have e1 := hG.b0.cell
    simp at e0
    have hdat := hDr.pd at_ hat
    have hGH := Lib.hid hG
    have ha0 : (0 : Int) ≤ (at_ : Int) := by omega
    have ha1 : (at_ : Int) < (n : Int) := by omega
    have hfin : Hid (∀ (W3 : World) (cd : Int) (v' : Value) (W5 : World), New W W3 → New ((W3.setCell ⟨w.heap.size + 1, 0, none⟩ (.int .i64 cd)).setCell ⟨w.heap.size + 1, 1, none⟩ v') W5 →
        W5.heap[Wl.heap.size]? = some (.deferred (some [])) ∧ New w (W5.putObj Wl.heap.size (.deferred none)) ∧
        Blk (W5.putObj Wl.heap.size (.deferred none)) (w.heap.size + 1) 95 #[.int .i64 cd, v'] ∧
        (∀ F, Sd W5 v' F → Sd (W5.putObj Wl.heap.size (.deferred none)) v' F) ∧ ∀ F, Sd W3 v' F → Sd W5 v' F) := fun W3 cd v' W5 hn hn5 => by
      have hl : Wl.heap.size < W.heap.size := (Array.getElem?_eq_some_iff.1 hD).1
      have g1 := grown_set W3 (w.heap.size + 1) 0 (.int .i64 cd)
      have g2 := grown_set (W3.setCell ⟨w.heap.size + 1, 0, none⟩ (.int .i64 cd)) (w.heap.size + 1) 1 v'
      have g3 := grownBy_putObj' W5 Wl.heap.size (.deferred none)
      have hb3 := hGH.out.b1.new hn
      have hdef : W5.heap[Wl.heap.size]? = some (.deferred (some [])) := by
        have h1 := (hn.block _ hl).trans hD
        have h2 := (g1.block Wl.heap.size (Nat.lt_of_lt_of_le hl hn.size) fun e => by injection e; omega).trans h1
        have h3 := (g2.block Wl.heap.size (Nat.lt_of_lt_of_le hl (Nat.le_trans hn.size g1.size)) fun e => by injection e; omega).trans h2
        exact (hn5.block _ (Array.getElem?_eq_some_iff.1 h3).1).trans h3
      refine ⟨hdef, ?_, ?_, fun F hs => ?_, fun F hs => ?_⟩
      · exact ((((hGH.out.nw.next hn).set (by show w.heap.size ≤ w.heap.size + 1; omega) _).set (by show w.heap.size ≤ w.heap.size + 1; omega) _).next hn5).grown g3 fun r e => by cases e; omega
      · exact (((hb3.put 0 (.int .i64 cd)).put 1 v').new hn5).grown g3 fun e => by injection e; omega
      · obtain ⟨b, c, t1, t2, t3, t4⟩ := hs
        have n3 : (some Wl.heap.size : Option Nat) ≠ some b := fun e => by
          injection e with e
          obtain ⟨cs, hc, _⟩ := t4
          rw [← e, hdef] at hc
          cases hc
        exact ⟨b, c, t1, t2, t3, t4.grown g3 n3⟩
      · have hne : ∀ b f, RowK 5 .u8 W3 b 128 f → (some (w.heap.size + 1) : Option Nat) ≠ some b := fun b f hr e => RowK.ne_blk hr hb3 (by decide) (Option.some.inj e)
        obtain ⟨b, c, t1, t2, t3, t4⟩ := hs
        have n1 : (some (w.heap.size + 1) : Option Nat) ≠ some b := hne b F t4
        exact ⟨b, c, t1, t2, t3, ((t4.grown g1 n1).grown g2 n1).new hn5⟩
    have q0 := hG.b1.cell 0
    have q1 := hG.b1.cell 1
    have q2 := hG.b1.frozen 0
    have q3 := hG.b1.frozen 1
    simp at q0 q1
    have hb1l := hG.b1.lt
    have hmk : ∀ w : World, (Instr.makeSlice 79 (.int .i64 128) (.int .i64 128)).run Try.prog w = .ok (.slice (some ⟨w.heap.size, 0, none⟩) 128 128) (w.alloc (.cells (madeCells #[.int .u8 0] 128) 5)) := run_make_row' (P := Try.prog) 79 5 (.int .u8 0) 1 Try.underlying79 infoU8 rfl .i64 .i64 128 (by omega) (by omega)
    have hnb := fun w : World => Lib.run_eql_slice_nil (P := Try.prog) w 79 5 none 0 0 0 0 Try.underlying79
    have hnc := fun (w : World) (b c : Nat) => Lib.run_eql_slice_nil (P := Try.prog) w 79 5 (some ⟨b, 0, none⟩) 128 c 0 0 Try.underlying79
    dsimp only
    clear hG hst hD hsl
    cases hpl : s.pl at_ with
    | none =>
      rw [hpl] at hdat
      have hdat : pv at_ = .slice none 0 0 := hdat
      rw [hdat] at k0
      clear hdat
      cases hbr : s.br at_ with
      | true =>
        rw [hbr] at k1
        have hr : Hid (getS s at_ = (12, none)) := by show _ = _; rw [hget.out]; unfold plateR; rw [if_pos hbr]
        clear hDr
        have y0 := cell_more e0 (.cells #[.slice none 0 0, .bool false] 156)
        have y1 := cell_more e1 (.cells #[.slice none 0 0, .bool false] 156)
        have y2 := cell_more k0 (.cells #[.slice none 0 0, .bool false] 156)
        have y3 := cell_more k1 (.cells #[.slice none 0 0, .bool false] 156)
        go_wp2_with fail
        go_region
        all_goals go_wp2
        obtain ⟨z1, z2, z3, z4, _⟩ := hfin.out W 12 (.slice none 0 0) _ (New.refl W) (((New.refl _).alloc (.cells #[.slice none 0 0, .bool true] 156)).drew)
        have x0 := z3.cell 0
        have x1 := z3.cell 1
        simp at x0 x1
        refine ⟨by simp, .inl ⟨_, _, rfl, run_takeDeferred z1, ?_⟩⟩
        refine ⟨.agg #[.int .i64 12, .slice none 0 0], by simp [results, Try.results62, go_sem, x0, x1], ?_⟩
        rw [hr.out]
        exact ⟨⟨_, rfl, rfl⟩, z2⟩
      | false =>
        rw [hbr] at k1
        have hr : Hid (getS s at_ = (0, some fun _ => 0)) := by show _ = _; rw [hget.out]; unfold plateR; rw [if_neg (by rw [hbr]; simp), hpl]
        clear hDr
        have y0 := cell_more e0 (.cells #[.slice none 0 0, .bool false] 156)
        have y1 := cell_more e1 (.cells #[.slice none 0 0, .bool false] 156)
        have y2 := cell_more k0 (.cells #[.slice none 0 0, .bool false] 156)
        have y3 := cell_more k1 (.cells #[.slice none 0 0, .bool false] 156)
        have x0 := cell_more (cell_more q0 (.cells #[.slice none 0 0, .bool false] 156)) (.cells (madeCells #[.int .u8 0] 128) 5)
        have x1 := cell_more (cell_more q1 (.cells #[.slice none 0 0, .bool false] 156)) (.cells (madeCells #[.int .u8 0] 128) 5)
        have x2 := frozen_more (frozen_more q2 (by show w.heap.size + 1 < _; exact hb1l) (.cells #[.slice none 0 0, .bool false] 156)) (by show w.heap.size + 1 < _; simp; omega) (.cells (madeCells #[.int .u8 0] 128) 5)
        have x3 := frozen_more (frozen_more q3 (by show w.heap.size + 1 < _; exact hb1l) (.cells #[.slice none 0 0, .bool false] 156)) (by show w.heap.size + 1 < _; simp; omega) (.cells (madeCells #[.int .u8 0] 128) 5)
        go_wp2_with fail
        go_region
        all_goals go_wp2
        obtain ⟨z1, z2, z3, z4, z5⟩ := hfin.out ((W.alloc (.cells #[.slice none 0 0, .bool false] 156)).alloc (.cells (madeCells #[.int .u8 0] 128) 5)) 0 (.slice (some ⟨W.heap.size + 1, 0, none⟩) 128 128) _ (((New.refl W).alloc _).alloc _) (New.refl _).drew
        have hs5 := z4 (fun _ => 0) (z5 (fun _ => 0) ⟨W.heap.size + 1, 128, rfl, Nat.le_refl _, by unfold maxLen; omega, by
          have h1 := World.rowIs_made (W.alloc (.cells #[.slice none 0 0, .bool false] 156)) (.int .u8 0) 128 5
          have h2 := RowK.of_rowIs h1 (Nat.le_refl 128) (f := fun _ => 0) fun j hj => rfl
          simpa using h2⟩)
        have x4 := z3.cell 0
        have x5 := z3.cell 1
        simp at x4 x5
        refine ⟨by simp, .inl ⟨_, _, rfl, run_takeDeferred z1, ?_⟩⟩
        refine ⟨.agg #[.int .i64 0, .slice (some ⟨W.heap.size + 1, 0, none⟩) 128 128], by simp [results, Try.results62, go_sem, x4, x5], ?_⟩
        rw [hr.out]
        exact ⟨⟨_, rfl, hs5⟩, z2⟩
    | some F =>
      rw [hpl] at hdat
      obtain ⟨sb2, sc2, hsv, m1, m2, m3⟩ := hdat
      rw [hsv] at k0
      cases hbr : s.br at_ with
      | true =>
        rw [hbr] at k1
        have hr : Hid (getS s at_ = (12, none)) := by show _ = _; rw [hget.out]; unfold plateR; rw [if_pos hbr]
        clear hDr hsv m3
        have y0 := cell_more e0 (.cells #[.slice none 0 0, .bool false] 156)
        have y1 := cell_more e1 (.cells #[.slice none 0 0, .bool false] 156)
        have y2 := cell_more k0 (.cells #[.slice none 0 0, .bool false] 156)
        have y3 := cell_more k1 (.cells #[.slice none 0 0, .bool false] 156)
        go_wp2_with fail
        go_region
        all_goals go_wp2
        obtain ⟨z1, z2, z3, z4, _⟩ := hfin.out W 12 (.slice none 0 0) _ (New.refl W) (((New.refl _).alloc (.cells #[.slice (some ⟨sb2, 0, none⟩) 128 sc2, .bool true] 156)).drew)
        have x0 := z3.cell 0
        have x1 := z3.cell 1
        simp at x0 x1
        refine ⟨by simp, .inl ⟨_, _, rfl, run_takeDeferred z1, ?_⟩⟩
        refine ⟨.agg #[.int .i64 12, .slice none 0 0], by simp [results, Try.results62, go_sem, x0, x1], ?_⟩
        rw [hr.out]
        exact ⟨⟨_, rfl, rfl⟩, z2⟩
      | false =>
        rw [hbr] at k1
        have hr : Hid (getS s at_ = (0, some F)) := by show _ = _; rw [hget.out]; unfold plateR; rw [if_neg (by rw [hbr]; simp), hpl]
        have hcl := Lib.hid (fun (w' : World) (hn : New W w') => Clone_sd (.slice (some ⟨sb2, 0, none⟩) 128 sc2) F w' ⟨sb2, sc2, rfl, m1, m2, m3.new hn⟩)
        clear hDr hsv m3
        have y0 := cell_more e0 (.cells #[.slice none 0 0, .bool false] 156)
        have y1 := cell_more e1 (.cells #[.slice none 0 0, .bool false] 156)
        have y2 := cell_more k0 (.cells #[.slice none 0 0, .bool false] 156)
        have y3 := cell_more k1 (.cells #[.slice none 0 0, .bool false] 156)
        go_wp2_with fail
        go_region
        all_goals go_wp2_with fail
        refine (hcl.out _ (((New.refl W).alloc _).drew)).mono ?_
        rintro e w3 ⟨v', rfl, hs3, hn3⟩
        have hN3 : New W w3 := New.next (((New.refl W).alloc _).drew) hn3
        have r0 := (hGH.out.b1.new hN3).cell 0
        have r1 := (hGH.out.b1.new hN3).cell 1
        have r2 := (hGH.out.b1.new hN3).frozen 0
        have r3 := (hGH.out.b1.new hN3).frozen 1
        simp at r0 r1
        obtain ⟨z1, z2, z3, z4, z5⟩ := hfin.out w3 0 v' _ hN3 (New.refl _)
        have hs5 := Lib.hid (z4 F (z5 F hs3.sd))
        obtain ⟨vb, vc, rfl, _⟩ := hs3
        have x0 := z3.cell 0
        have x1 := z3.cell 1
        simp at x0 x1
        have zz := Lib.hid (And.intro z1 z2)
        clear z1 z2 z3 z4 z5
        go_wp2_with fail
        refine ⟨by simp, .inl ⟨_, _, rfl, run_takeDeferred zz.out.1, ?_⟩⟩
        refine ⟨.agg #[.int .i64 0, .slice (some ⟨vb, 0, none⟩) 128 vc], by simp [results, Try.results62, go_sem, x0, x1], ?_⟩
        rw [hr.out]
        exact ⟨⟨_, rfl, hs5.out⟩, zz.out.2⟩
  case stop =>
    rintro cd pre W hpre ⟨rfl, q, i, rv, rfl, h3, h4, h5, h6, h7⟩ hD
    obtain ⟨him, hqq⟩ := preB_of hpre
    have hsome : lastN at_ s.ws s.ws.length = some (s.ws.getD i noP).2 := by
      rw [hmH.out, lastN_find at_ s.ws (i + 1) [] m (by rw [hmH.out]; exact Nat.le_refl _) (fun j h1 h2 => h3 j (by rw [hqq]; exact preB_mem.2 ⟨h1, h2⟩)) (by omega), lastN, if_pos h4]
    have hget : Hid (getS s at_ = (0, some (s.ws.getD i noP).2)) := by show _ = _; unfold getS; rw [hsome]
    have hg := grownBy_putObj' W Wl.heap.size (.deferred none)
    have h6' : Blk (W.putObj Wl.heap.size (.deferred none)) (w.heap.size + 1) 95 #[.int .i64 0, rv] := h6.grown hg fun e => by injection e; omega
    have r0 := h6'.cell 0
    have r1 := h6'.cell 1
    simp at r0 r1
    have hfin := Lib.hid (And.intro (h7.grown hg fun r e => by cases e; omega).sd (h5.grown hg fun r e => by cases e; omega))
    have hDf := Lib.hid hD
    clear hg h5 h6 h6' h7 h3 hst hD
    refine wpIn_wide.2 ?_
    dsimp only
    go_wp2_with fail
    refine ⟨by simp, .inl ⟨_, _, rfl, run_takeDeferred hDf.out, ?_⟩⟩
    refine ⟨.agg #[.int .i64 0, rv], by simp [results, Try.results62, go_sem, r0, r1], ?_⟩
    rw [hget.out]
    exact ⟨⟨rv, rfl, hfin.out.1⟩, hfin.out.2⟩
end Go.Proofs.Ythjjchlibbheaaa.drive
