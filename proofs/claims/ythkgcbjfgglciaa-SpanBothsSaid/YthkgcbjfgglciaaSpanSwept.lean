/-
  Contract of span.swept.
-/
import Derived.Test.YthkgcbjfgglciaaSpanSort
namespace Go.Proofs.Ythkgcbjfgglciaa.spans
open Go.ChangeShapes Go.WideShapes Go.ChangeAt Go.RowKit Go.Proofs.Ythkgcbjfgglciaa.kit Go.Proofs.Ythkgcbjfgglciaa.span Go.Deep
set_option linter.unusedVariables false
theorem infoRng : (Try.prog.info? 30).map (fun i => (i.zero, i.size, i.bytes)) = some (some (.agg #[.int .i64 0, .int .i64 0]), 2, 16) := by kernel_rfl
theorem swept_facts {D E : List (Int × Int)} {n : Nat} (hn : E.length = n) (hp : D.Perm E) (hs : ∀ i j (hi : i < D.length) (hj : j < D.length), i ≤ j → D[i].1 ≤ D[j].1) (hE : ∀ e ∈ E, 0 ≤ e.1 ∧ e.1 ≤ 1048576 ∧ -1 ≤ e.2 ∧ e.2 ≤ 1) (hsum : wsum E = 0) :
    ∃ P Q : Nat → Int, (∀ i (hi : i < D.length), D[i] = (P i, Q i)) ∧ (∀ i j, i ≤ j → j < n → P i ≤ P j) ∧ (∀ i, i < n → 0 ≤ P i ∧ P i ≤ 1048576) ∧ (∀ i, i < n → -1 ≤ Q i ∧ Q i ≤ 1) ∧ (∀ x, depF P Q n x = dep E x) ∧ preF Q n = 0 ∧ D.length = n := by
  have hl : D.length = n := hp.length_eq.trans hn
  have hat : ∀ i (hi : i < D.length), D.getD i (0, 0) = D[i] := fun i hi => by simp [hi]
  refine ⟨fun i => (D.getD i (0, 0)).1, fun i => (D.getD i (0, 0)).2, fun i hi => ?_, fun i j hij hj => ?_, fun i hi => ?_, fun i hi => ?_, fun x => ?_, ?_, hl⟩
  · simp only [hat i hi]
  · have hi' : i < D.length := by omega
    have hj' : j < D.length := by omega
    show (D.getD i (0, 0)).1 ≤ (D.getD j (0, 0)).1
    rw [hat i hi', hat j hj']
    exact hs i j hi' hj' hij
  · have hi' : i < D.length := by omega
    have := hE D[i] (hp.mem_iff.1 (List.getElem_mem hi'))
    show 0 ≤ (D.getD i (0, 0)).1 ∧ (D.getD i (0, 0)).1 ≤ 1048576
    rw [hat i hi']
    exact ⟨this.1, this.2.1⟩
  · have hi' : i < D.length := by omega
    have := hE D[i] (hp.mem_iff.1 (List.getElem_mem hi'))
    show -1 ≤ (D.getD i (0, 0)).2 ∧ (D.getD i (0, 0)).2 ≤ 1
    rw [hat i hi']
    exact ⟨this.2.2.1, this.2.2.2⟩
  · rw [← hl, depF_of D x D.length (Nat.le_refl _), List.take_length, dep_perm hp]
  · rw [← hl, preF_of D D.length (Nat.le_refl _), List.take_length]
    have : ∀ {A B : List (Int × Int)}, A.Perm B → wsum A = wsum B := fun h => by
      induction h with
      | nil => rfl
      | cons e _ ih => simp only [wsum, ih]
      | swap e e' l => simp only [wsum]; omega
      | trans _ _ h1 h2 => rw [h1, h2]
    rw [this hp, hsum]
set_option maxRecDepth 100000 in
set_option maxHeartbeats 1000000 in
/-- the sweep -/
theorem swept_any (g c kf n : Nat) (want : Int → Bool) (E : List (Int × Int)) (hn : E.length = n) (base : Nat) (w : World) (eg : ∀ args w, (callFunc kf args).run Try.prog w = .ok (.enter kf args) w) (h2 : 2 ≤ n) (hsz : n ≤ 1000)
    (hown : w.ownsRow base 84 2 (.slice (some ⟨g, 0, none⟩) n c) n (encE E)) (hE : ∀ e ∈ E, 0 ≤ e.1 ∧ e.1 ≤ 1048576 ∧ -1 ≤ e.2 ∧ e.2 ≤ 1) (hsum : wsum E = 0) (hw0 : want 0 = false)
    (hwant : ∀ (d : Int) w', Calls Try.prog kf #[.int .i64 d] w' fun e w'' => e = .returned (.bool (want d)) ∧ w' = w'') :
    Calls Try.prog 41 #[.slice (some ⟨g, 0, none⟩) n c, .func (.func kf) #[] #[]] w fun e w' => (∃ (v : Value) (R : Rs), e = .returned v ∧ w'.ownsRow w.heap.size 30 2 v R.length (encE R) ∧ R.length ≤ n ∧ normR R ∧ ∀ x, want (dep E x) = true ↔ inR R x) ∧ w.grownBy w' (some g) := by
  obtain ⟨i0, hi0, hz0, hz1, hz2⟩ := info_parts infoRng
  have hgl : g < w.heap.size := (hown.lt g rfl).2
  have hwant0 := Lib.hid hwant
  have hE0 := Lib.hid hE
  have hsum0 := Lib.hid hsum
  have hw00 := Lib.hid hw0
  have hn0 := Lib.hid hn
  have hown0 := hown.alloc (.cells #[.slice (some ⟨g, 0, none⟩) n c] 60)
  have hbox := Lib.hid (Blk.fresh w 60 #[.slice (some ⟨g, 0, none⟩) n c])
  have hbc : (w.alloc (.cells #[.slice (some ⟨g, 0, none⟩) n c] 60)).cell? ⟨w.heap.size, 0, none⟩ = some (.slice (some ⟨g, 0, none⟩) n c) := hbox.out.cell 0
  have hsort0 := sort_edges E g c w.heap.size base (w.alloc (.cells #[.slice (some ⟨g, 0, none⟩) n c] 60)) (by omega) (by omega) (by rw [hn]; exact hown0) (by rw [hn]; exact hbc) (by simp) (by omega)
  rw [hn] at hsort0
  have hsort := Lib.hid hsort0
  clear hown hE hsum hw0 hwant hbc hown0 hsort0 hn
  go_enter Try.func41, Try.ntmps41
  go_wp2_with fail
  refine hsort.out.mono ?_
  rintro e w1 ⟨rfl, ⟨D, hperm, hsrt, hcl⟩, hg1⟩
  obtain ⟨P, Q, hPQ, hPs, hPb, hQb, hdep, hpre, hDl⟩ := swept_facts hn0.out hperm hsrt hE0.out hsum0.out
  have hcell : Hid (∀ i, i < n → w1.cell? ⟨g, i * 2, none⟩ = some (.int .i64 (P i)) ∧ w1.cell? ⟨g, i * 2 + 1, none⟩ = some (.int .i64 (Q i))) := fun i hi => by
    have := hcl i (by omega)
    rw [hPQ i (by omega)] at this
    exact this
  have hPs0 := Lib.hid hPs
  have hPb0 := Lib.hid hPb
  have hpb := Lib.hid (preF_bd hQb)
  have hQb0 := Lib.hid hQb
  have hdep0 := Lib.hid hdep
  have hpre0 := Lib.hid hpre
  have hb1 := Lib.hid (hbox.out.grown hg1 (by simp; omega))
  have hgA := Lib.hid ((World.grownBy_alloc w (.cells #[.slice (some ⟨g, 0, none⟩) n c] 60) (some g)).trans hg1)
  have hgl1 : g < w1.heap.size := Nat.lt_of_lt_of_le hgl hgA.out.size
  clear hperm hsrt hcl hg1 hPQ hPs hPb hQb hdep hpre hDl hsort hbox
  go_wp2
  go_loopw [8, 6, 7, 5] (fun a d f o wr => ∃ (i : Nat) (R : Rs) (fv : Int) (sv : Value), sv = o ∧ a = .int .i64 i ∧ d = .int .i64 (preF Q i) ∧ f = .int .i64 fv ∧ i ≤ n ∧ -1 ≤ fv ∧ fv ≤ 1048576 ∧ Hid (swAt P Q n want i R fv) ∧ R.length ≤ i ∧ wr.ownsRow w1.heap.size 30 2 sv R.length (encE R) ∧ New w1 wr) (fun a _ _ _ _ => n - (intOf a).toNat)
  case atStart => exact ⟨0, [], -1, _, rfl, rfl, rfl, rfl, by omega, by omega, by omega, sw_start hw00.out hPs0.out, Nat.le_refl _, World.ownsRow_nil _ _ _ _, New.refl _⟩
  case round =>
    obtain ⟨i, R, fv, sv, rfl, rfl, rfl, rfl, hi, hf1, hf2, hsw, hRl, hown, hnw⟩ := hrel
    have cb := (hb1.out.new hnw).cell 0
    simp at cb
    by_cases hlt : i < n
    · have hown1 := Lib.hid hown
      have hnw1 := Lib.hid hnw
      have ci := (hnw.cell (p := ⟨g, i * 2, none⟩) hgl1).trans (hcell.out i hlt).1
      obtain ⟨p, hp⟩ : ∃ p, Hid (P i = p) := ⟨_, (rfl : _ = _)⟩
      have hpb2 := hPb0.out i hlt
      rw [hp.out] at ci hpb2
      have hli : (i : Int) < (n : Int) := by omega
      clear hown hnw
      go_wp2
      go_loop [8, 6] (fun a d => ∃ j : Nat, a = .int .i64 j ∧ i ≤ j ∧ j ≤ n ∧ d = .int .i64 (preF Q j) ∧ Hid (∀ k, i ≤ k → k < j → P k = p)) (fun a _ => n - (intOf a).toNat)
      case atStart => exact ⟨i, rfl, Nat.le_refl _, by omega, rfl, fun k h1 h2 => by omega⟩
      case round =>
        obtain ⟨j, rfl, hij, hjn, rfl, hall⟩ := hrel
        have hpj := hpb.out j hjn
        by_cases hc : j < n ∧ P j = p
        · obtain ⟨hjl, hjp⟩ := hc
          have cj := (hnw1.out.cell (p := ⟨g, j * 2, none⟩) hgl1).trans (hcell.out j hjl).1
          have cq := (hnw1.out.cell (p := ⟨g, j * 2 + 1, none⟩) hgl1).trans (hcell.out j hjl).2
          rw [hjp] at cj
          have hqb := hQb0.out j hjl
          have hstep : Hid (preF Q (j + 1) = preF Q j + Q j) := rfl
          have hall2 : Hid (∀ k, i ≤ k → k < j + 1 → P k = p) := fun k h1 h2 => by
            rcases Nat.lt_or_ge k j with h3 | h3
            · exact hall.out k h1 h3
            · have : k = j := by omega
              rw [this]; exact hjp
          have hjl2 : (j : Int) < (n : Int) := by omega
          clear hjp
          generalize preF Q j = u at *
          generalize Q j = v at *
          go_wp2
          go_round
          case rel => exact ⟨j + 1, by go_num, by omega, by omega, by rw [hstep.out], hall2⟩
          case measure => simp [intOf]; omega
        · have hij2 : i < j := by
            rcases Nat.lt_or_ge i j with h | h
            · exact h
            · have : j = i := by omega
              exact absurd ⟨by omega, by rw [this]; exact hp.out⟩ hc
          have hnext : Hid (j < n → p < P j) := fun h => by
            have h1 := hPs0.out i j hij h
            rw [hp.out] at h1
            have h3 : P j ≠ p := fun h4 => hc ⟨h, h4⟩
            omega
          obtain ⟨u, hu⟩ : ∃ u, Hid (preF Q j = u) := ⟨_, (rfl : _ = _)⟩
          rw [hu.out] at hpj ⊢
          have hcc := Lib.hid hc
          clear hc
          by_cases hjl : j < n
          · have cj := (hnw1.out.cell (p := ⟨g, j * 2, none⟩) hgl1).trans (hcell.out j hjl).1
            obtain ⟨p', hp'⟩ : ∃ p', Hid (P j = p') := ⟨_, (rfl : _ = _)⟩
            rw [hp'.out] at cj
            have hne : (p' == p) = false := by
              have := hnext.out hjl
              rw [hp'.out] at this
              simp; omega
            have hjl2 : (j : Int) < (n : Int) := by omega
            cases hb : want u with
            | true =>
              have hb0 := Lib.hid hb
              clear hb
              by_cases hfv : fv < 0
              · go_wp2_with fail
                refine (hwant0.out u _).mono ?_
                rw [hb0.out]
                rintro e w9 ⟨rfl, rfl⟩
                have hsw2 : Hid (swAt P Q n want j R p) := sw_open hsw.out hPs0.out hlt hp.out hij2 hjn hall.out hnext.out hpb2.1 (by rw [hu.out]; exact hb0.out) hfv
                go_wp2
                go_roundw
                case rel => exact ⟨j, R, p, _, rfl, rfl, by rw [hu.out], rfl, hjn, by omega, by omega, hsw2, by omega, hown1.out, hnw1.out⟩
                case measure => simp [intOf]; omega
              · go_wp2_with fail
                refine (hwant0.out u _).mono ?_
                rw [hb0.out]
                rintro e w9 ⟨rfl, rfl⟩
                go_wp2_with fail
                refine (hwant0.out u _).mono ?_
                rw [hb0.out]
                rintro e w9 ⟨rfl, rfl⟩
                have hsw2 : Hid (swAt P Q n want j R fv) := sw_same hsw.out hPs0.out hlt hp.out hij2 hjn hall.out hnext.out (by rw [hu.out, hb0.out]; exact ⟨fun _ => by omega, fun _ => rfl⟩)
                go_wp2
                go_roundw
                case rel => exact ⟨j, R, fv, _, rfl, rfl, by rw [hu.out], rfl, hjn, by omega, by omega, hsw2, by omega, hown1.out, hnw1.out⟩
                case measure => simp [intOf]; omega
            | false =>
              have hb0 := Lib.hid hb
              clear hb
              by_cases hfv : fv < 0
              · go_wp2_with fail
                refine (hwant0.out u _).mono ?_
                rw [hb0.out]
                rintro e w9 ⟨rfl, rfl⟩
                go_wp2_with fail
                refine (hwant0.out u _).mono ?_
                rw [hb0.out]
                rintro e w9 ⟨rfl, rfl⟩
                have hsw2 : Hid (swAt P Q n want j R fv) := sw_same hsw.out hPs0.out hlt hp.out hij2 hjn hall.out hnext.out (by rw [hu.out, hb0.out]; exact ⟨(fun h => by cases h), fun h => by omega⟩)
                go_wp2
                go_roundw
                case rel => exact ⟨j, R, fv, _, rfl, rfl, by rw [hu.out], rfl, hjn, by omega, by omega, hsw2, by omega, hown1.out, hnw1.out⟩
                case measure => simp [intOf]; omega
              · go_wp2_with fail
                refine (hwant0.out u _).mono ?_
                rw [hb0.out]
                rintro e w9 ⟨rfl, rfl⟩
                go_wp2_with fail
                refine (hwant0.out u _).mono ?_
                rw [hb0.out]
                rintro e w9 ⟨rfl, rfl⟩
                have hsw2 : Hid (swAt P Q n want j (R ++ [(fv, p)]) (-1)) := sw_close hsw.out hPs0.out hlt hp.out hij2 hjn hall.out hnext.out (by rw [hu.out]; exact hb0.out) (by omega)
                have hsz1 := hnw1.out.size
                have happ : Hid (encE (R ++ [(fv, p)]) = encE R ++ [.int .i64 fv, .int .i64 p]) := by rw [encE_append]; exact (rfl : _ = _)
                have hRn : R.length ≤ 1000 := by omega
                have hLen : Hid ((R ++ [(fv, p)]).length = R.length + 1) := by rw [List.length_append]; exact (rfl : _ = _)
                obtain ⟨m, hm⟩ : ∃ m, Hid (R.length = m) := ⟨_, (rfl : _ = _)⟩
                rw [hm.out] at hRn
                have hown2 : wr.ownsRow w1.heap.size 30 2 sv m (encE R) := by rw [← hm.out]; exact hown1.out
                have hown3 := Lib.hid (hown2.alloc (.cells #[.int .i64 fv, .int .i64 p] 30))
                clear hown2
                go_wp2_with (at_builtin; refine wpList_append_own _ rfl _ _ 22 rfl w1.heap.size 30 i0 _ 2 16 Try.underlying22 hi0 hz0 hz1 hz2 rfl (by decide) sv m (encE R) rfl hown3.out ⟨wr.heap.size, 0, none⟩ 1 1 [.int .i64 fv, .int .i64 p] rfl rfl (World.news_of_block (cs := #[.int .i64 _, .int .i64 _]) (t := 30) (fr := (0, 0)) (heap_alloc_new wr _)) (by simp [Value.oneCell']) (by unfold maxLen; omega) (by omega) (by simp; omega) ?_; intro v6 w6 hown6 hgrow hnil)
                have hN6 := Lib.hid ((hnw1.out.alloc (.cells #[.int .i64 fv, .int .i64 p] 30)).appendO hown3.out (Nat.le_refl _) hgrow)
                rw [← happ.out] at hown6
                have hown7 : Hid (w6.ownsRow w1.heap.size 30 2 v6 (R ++ [(fv, p)]).length (encE (R ++ [(fv, p)]))) := by rw [hLen.out, hm.out]; exact hown6
                clear hown6 hgrow hnil
                go_wp2
                go_roundw
                case rel => exact ⟨j, R ++ [(fv, p)], -1, _, rfl, rfl, by rw [hu.out], rfl, hjn, by omega, by omega, hsw2, by rw [hLen.out]; omega, hown7.out, hN6.out⟩
                case measure => simp [intOf]; omega
          · have hjl2 : ¬ (j : Int) < (n : Int) := by omega
            cases hb : want u with
            | true =>
              have hb0 := Lib.hid hb
              clear hb
              by_cases hfv : fv < 0
              · go_wp2_with fail
                refine (hwant0.out u _).mono ?_
                rw [hb0.out]
                rintro e w9 ⟨rfl, rfl⟩
                have hsw2 : Hid (swAt P Q n want j R p) := sw_open hsw.out hPs0.out hlt hp.out hij2 hjn hall.out hnext.out hpb2.1 (by rw [hu.out]; exact hb0.out) hfv
                go_wp2
                go_roundw
                case rel => exact ⟨j, R, p, _, rfl, rfl, by rw [hu.out], rfl, hjn, by omega, by omega, hsw2, by omega, hown1.out, hnw1.out⟩
                case measure => simp [intOf]; omega
              · go_wp2_with fail
                refine (hwant0.out u _).mono ?_
                rw [hb0.out]
                rintro e w9 ⟨rfl, rfl⟩
                go_wp2_with fail
                refine (hwant0.out u _).mono ?_
                rw [hb0.out]
                rintro e w9 ⟨rfl, rfl⟩
                have hsw2 : Hid (swAt P Q n want j R fv) := sw_same hsw.out hPs0.out hlt hp.out hij2 hjn hall.out hnext.out (by rw [hu.out, hb0.out]; exact ⟨fun _ => by omega, fun _ => rfl⟩)
                go_wp2
                go_roundw
                case rel => exact ⟨j, R, fv, _, rfl, rfl, by rw [hu.out], rfl, hjn, by omega, by omega, hsw2, by omega, hown1.out, hnw1.out⟩
                case measure => simp [intOf]; omega
            | false =>
              have hb0 := Lib.hid hb
              clear hb
              by_cases hfv : fv < 0
              · go_wp2_with fail
                refine (hwant0.out u _).mono ?_
                rw [hb0.out]
                rintro e w9 ⟨rfl, rfl⟩
                go_wp2_with fail
                refine (hwant0.out u _).mono ?_
                rw [hb0.out]
                rintro e w9 ⟨rfl, rfl⟩
                have hsw2 : Hid (swAt P Q n want j R fv) := sw_same hsw.out hPs0.out hlt hp.out hij2 hjn hall.out hnext.out (by rw [hu.out, hb0.out]; exact ⟨(fun h => by cases h), fun h => by omega⟩)
                go_wp2
                go_roundw
                case rel => exact ⟨j, R, fv, _, rfl, rfl, by rw [hu.out], rfl, hjn, by omega, by omega, hsw2, by omega, hown1.out, hnw1.out⟩
                case measure => simp [intOf]; omega
              · go_wp2_with fail
                refine (hwant0.out u _).mono ?_
                rw [hb0.out]
                rintro e w9 ⟨rfl, rfl⟩
                go_wp2_with fail
                refine (hwant0.out u _).mono ?_
                rw [hb0.out]
                rintro e w9 ⟨rfl, rfl⟩
                have hsw2 : Hid (swAt P Q n want j (R ++ [(fv, p)]) (-1)) := sw_close hsw.out hPs0.out hlt hp.out hij2 hjn hall.out hnext.out (by rw [hu.out]; exact hb0.out) (by omega)
                have hsz1 := hnw1.out.size
                have happ : Hid (encE (R ++ [(fv, p)]) = encE R ++ [.int .i64 fv, .int .i64 p]) := by rw [encE_append]; exact (rfl : _ = _)
                have hRn : R.length ≤ 1000 := by omega
                have hLen : Hid ((R ++ [(fv, p)]).length = R.length + 1) := by rw [List.length_append]; exact (rfl : _ = _)
                obtain ⟨m, hm⟩ : ∃ m, Hid (R.length = m) := ⟨_, (rfl : _ = _)⟩
                rw [hm.out] at hRn
                have hown2 : wr.ownsRow w1.heap.size 30 2 sv m (encE R) := by rw [← hm.out]; exact hown1.out
                have hown3 := Lib.hid (hown2.alloc (.cells #[.int .i64 fv, .int .i64 p] 30))
                clear hown2
                go_wp2_with (at_builtin; refine wpList_append_own _ rfl _ _ 22 rfl w1.heap.size 30 i0 _ 2 16 Try.underlying22 hi0 hz0 hz1 hz2 rfl (by decide) sv m (encE R) rfl hown3.out ⟨wr.heap.size, 0, none⟩ 1 1 [.int .i64 fv, .int .i64 p] rfl rfl (World.news_of_block (cs := #[.int .i64 _, .int .i64 _]) (t := 30) (fr := (0, 0)) (heap_alloc_new wr _)) (by simp [Value.oneCell']) (by unfold maxLen; omega) (by omega) (by simp; omega) ?_; intro v6 w6 hown6 hgrow hnil)
                have hN6 := Lib.hid ((hnw1.out.alloc (.cells #[.int .i64 fv, .int .i64 p] 30)).appendO hown3.out (Nat.le_refl _) hgrow)
                rw [← happ.out] at hown6
                have hown7 : Hid (w6.ownsRow w1.heap.size 30 2 v6 (R ++ [(fv, p)]).length (encE (R ++ [(fv, p)]))) := by rw [hLen.out, hm.out]; exact hown6
                clear hown6 hgrow hnil
                go_wp2
                go_roundw
                case rel => exact ⟨j, R ++ [(fv, p)], -1, _, rfl, rfl, by rw [hu.out], rfl, hjn, by omega, by omega, hsw2, by rw [hLen.out]; omega, hown7.out, hN6.out⟩
                case measure => simp [intOf]; omega
    · have hin : i = n := by omega
      subst hin
      have hfv : fv < 0 := by
        rcases Int.lt_or_le fv 0 with h | h
        · exact h
        · have := hsw.out.now.2 h
          rw [hpre0.out, hw00.out] at this
          cases this
      have hend := Lib.hid (sw_end hsw.out hfv)
      have hown1 := Lib.hid (own_mono hown hgA.out.size)
      have hg9 := Lib.hid (hgA.out.trans (grown_new hnw (some g)))
      clear hown hnw
      go_wp2
      go_ret
      exact ⟨⟨_, _, rfl, hown1.out, hRl, hend.out.1, fun x => by rw [← hdep0.out x]; exact hend.out.2 x⟩, hg9.out⟩
end Go.Proofs.Ythkgcbjfgglciaa.spans
