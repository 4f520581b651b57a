/-
  Contract of the reference's those.
-/
import Derived.Test.YthkgcbjfgglciaaSpanPl
import Derived.Test.YthkgcbjfgglciaaSpanEdges
import Derived.Test.YthkgcbjfgglciaaRows2
import Derived.Deep.RegionHeld3
namespace Go.Proofs.Ythkgcbjfgglciaa.spans
open Go.ChangeShapes Go.WideShapes Go.ChangeAt Go.RowKit Go.Proofs.Ythkgcbjfgglciaa.kit Go.Proofs.Ythkgcbjfgglciaa.span Go.Deep
set_option linter.unusedVariables false
/-- a cell of an own row is set -/
theorem own_set {w : World} {base : Nat} {e : TypeId} {size : Nat} {g n c m : Nat} {xs : List Value} (h : w.ownsRow base e size (.slice (some ⟨g, 0, none⟩) n c) m xs) (j : Nat) (u : Value) (hj : j < xs.length) :
    (w.setCell ⟨g, j, none⟩ u).ownsRow base e size (.slice (some ⟨g, 0, none⟩) n c) m (xs.set j u) := by
  refine ⟨by rw [List.length_set]; exact h.1, ?_⟩
  rcases h.2 with ⟨h0, _⟩ | ⟨g', cap, cur, hv, hb, hg, h1, h2, h3, h4⟩
  · cases h0
  · cases hv
    refine .inr ⟨g, c, cur.setIfInBounds j u, rfl, hb, ?_, h1, h2, by simpa using h3, ?_⟩
    · simp [World.setCell, Array.getElem?_modify, hg]
    · rw [Array.toList_setIfInBounds, List.take_set, h4]
theorem own_frozen' {w : World} {base : Nat} {e : TypeId} {size : Nat} {g n c : Nat} {m : Nat} {xs : List Value} (h : w.ownsRow base e size (.slice (some ⟨g, 0, none⟩) n c) m xs) (i : Nat) : w.frozen? ⟨g, i, none⟩ = false := by
  rcases h.2 with ⟨h0, _⟩ | ⟨g', cap, cur, hv, _, hg, _⟩
  · cases h0
  · cases hv
    simp [World.frozen?, hg]
theorem encE_set (R0 : Rs) (f t y : Int) : (encE (R0 ++ [(f, t)])).set (2 * R0.length + 1) (.int .i64 y) = encE (R0 ++ [(f, y)]) := by
  rw [encE_append, encE_append, List.set_append, if_neg (by rw [encE_len]; omega), encE_len, show 2 * R0.length + 1 - 2 * R0.length = 1 by omega]
  rfl
theorem infoRng2 : (Try.prog.info? 30).map (fun i => (i.zero, i.size, i.bytes)) = some (some (.agg #[.int .i64 0, .int .i64 0]), 2, 16) := by kernel_rfl
set_option maxRecDepth 100000 in
set_option maxHeartbeats 1000000 in
theorem those_any (A : Option Addr) (m c kf : Nat) (caps : Array Value) (S : Int → Bool) (Pl : Nat → Int) (w : World) (eg : ∀ args w, (callFunc kf args).run Try.prog w = .ok (.enter kf args) w) (hP : RdI .i64 w A m Pl) (hm : m ≤ 1000) (hpl : plP S Pl m)
    (hS : ∀ x w1, New w w1 → Calls Try.prog kf (#[.int .i64 x] ++ caps) w1 fun e w' => e = .returned (.bool (S x)) ∧ New w1 w') :
    Calls Try.prog 44 #[.slice A m c, .func (.func kf) #[] caps] w fun e w' => (∃ (v : Value) (R : Rs), normR R ∧ (∀ x, S x = true ↔ inR R x) ∧ R.length ≤ m ∧ w'.ownsRow w.heap.size 30 2 v R.length (encE R) ∧
      e = .returned (.tuple #[if R.length ≤ 200 then v else .slice none 0 0, .int .i64 (if R.length ≤ 200 then 0 else 8)])) ∧ New w w' := by
  obtain ⟨i0, hi0, hz0, hz1, hz2⟩ := info_parts infoRng2
  have hP0 := Lib.hid hP
  have hpl0 := Lib.hid hpl
  have hS0 := Lib.hid hS
  clear hP hpl hS
  go_enter Try.func44, Try.ntmps44
  go_wp2
  go_loopw [7, 6] (fun a o wr => ∃ (i : Nat) (R : Rs) (sv : Value), sv = o ∧ a = .int .i64 i ∧ (0 < m → i + 1 ≤ m) ∧ (m = 0 → i = 0) ∧ Hid (thAt S Pl i R) ∧ R.length ≤ i ∧ wr.ownsRow w.heap.size 30 2 sv R.length (encE R) ∧ New w wr) (fun a _ _ => m - (intOf a).toNat)
  case atStart => exact ⟨0, [], _, rfl, rfl, fun h => by omega, fun _ => rfl, th_start hpl0.out, Nat.le_refl _, World.ownsRow_nil _ _ _ _, New.refl _⟩
  case round =>
    obtain ⟨i, R, sv, rfl, rfl, hi1, hi2, hth, hRl, hown, hnw⟩ := hrel
    by_cases hlt : i + 1 < m
    · obtain ⟨b, off, rfl, hb, hcs⟩ := hP0.out.2 (by omega)
      have ci := (hnw.cell hb).trans (hcs i (by omega))
      have cn := (hnw.cell hb).trans (hcs (i + 1) hlt)
      have hown1 := Lib.hid hown
      have hnw1 := Lib.hid hnw
      have hli : (i : Int) + 1 < (m : Int) := by omega
      have hli2 : (i : Int) < (m : Int) := by omega
      clear hown hnw hcs hi1 hi2
      go_wp2_with fail
      refine (hS0.out (Pl i) _ hnw1.out).mono ?_
      cases hs : S (Pl i) with
      | false =>
        rintro e w1 ⟨rfl, hn1⟩
        have hth2 := Lib.hid (th_no hpl0.out hth.out hlt hs)
        have hown2 := Lib.hid (own_new hown1.out hn1)
        have hnw2 := Lib.hid (hnw1.out.next hn1)
        clear hn1 ci cn hs
        go_wp2
        go_roundw
        case rel => exact ⟨i + 1, R, _, rfl, by go_num, fun _ => by omega, fun h => by omega, hth2.out, by omega, hown2.out, hnw2.out⟩
        case measure => simp [intOf]; omega
      | true =>
        rintro e w1 ⟨rfl, hn1⟩
        have hs0 := Lib.hid hs
        have hown2 := own_new hown1.out hn1
        have hnw2 := Lib.hid (hnw1.out.next hn1)
        have ci1 := (hn1.cell (lt_of_cell ci)).trans ci
        have cn1 := (hn1.cell (lt_of_cell cn)).trans cn
        clear hn1 ci cn hs
        have hb1 : b < w1.heap.size := lt_of_cell ci1
        have ew : IntKind.i64.wrap ((i : Int) + 1) = (i : Int) + 1 := IntWalk.i64_in _ (by omega)
        rcases List.eq_nil_or_concat R with rfl | ⟨R0, ⟨f, t⟩, hRe⟩
        · have happ := Lib.hid (th_app hpl0.out hth.out hlt hs0.out (fun q hq => by cases hq))
          obtain ⟨V, cv, rfl, _, _, _, _⟩ := own_open hown2
          have hrow : (Value.slice V 0 cv).ownBlock ≠ some b := fun he => by have := (hown2.lt _ he).1; omega
          generalize Pl i = y0 at *
          generalize Pl (i + 1) = y1 at *
          have hd0 : decide ((0 : Int) < ((0 : Nat) : Int)) = false := by rfl
          have j0 : (0 : Int) ≤ (i : Int) := by omega
          have j1 : (0 : Int) ≤ (i : Int) + 1 := by omega
          have t1 : ((i : Int) + 1).toNat = i + 1 := by omega
          go_wp2_with fail
          go_quiet (fail)
          go_wp2_with fail
          go_region_held3 (fun w' => w'.cell? ⟨b, off + i, none⟩ = some (.int .i64 y0) ∧ w'.cell? ⟨b, off + (i + 1), none⟩ = some (.int .i64 y1))
            (first
              | go_keep
              | (go_split_ands
                 refine ⟨?_, ?_⟩ <;> (rw [hgrow.cell_far _ (by simp; omega) (Ne.symm hrow)]; assumption)))
            ((refine step_append_lies _ (by rfl) _ _ _ (by rfl) w.heap.size 30 i0 _ 2 16 Try.underlying22 hi0 hz0 hz1 hz2 rfl (by decide) _ 0 (encE []) (by rfl) ((hown2.alloc _).drew)
                ⟨w1.heap.size, 0, none⟩ 1 1 [.int .i64 y0, .int .i64 y1] (by rfl) (by rfl) (World.news_of_block (cs := #[.int .i64 _, .int .i64 _]) (t := 30) (fr := (0, 0)) (heap_alloc_new w1 _)) (by simp [Value.oneCell'])
                (by omega) (by unfold maxLen; omega) (by omega) (by have := hnw2.out.size; simp; omega) (w1.heap.size + 1) (by simp) ?_; intro gg cap1 wq hown1 hgrow hat hlt1))
          clear ew j0 j1 t1
          go_wp2
          go_roundw
          case rel => exact ⟨i + 1, [] ++ [(y0, y1)], _, rfl, by go_num, fun _ => by omega, fun h => by omega, happ.out, by simp, by rw [encE_append]; exact hown1, (hnw2.out.drewN _).append' hgrow (fun g hg => (hown2.lt g hg).1)⟩
          case measure => simp [intOf]; omega
        · rw [List.concat_eq_append] at hRe
          subst hRe
          obtain ⟨k, hk⟩ : ∃ k, k = (R0 ++ [(f, t)]).length := ⟨_, rfl⟩
          rw [← hk] at hown2 hRl
          have hk1 : k = R0.length + 1 := by rw [hk]; simp
          have hcf : (encE (R0 ++ [(f, t)]))[(k - 1) * 2 + 1]? = some (.int .i64 t) := by
            have := (encE_at (R0 ++ [(f, t)]) R0.length (by simp)).2
            rw [show (k - 1) * 2 + 1 = 2 * R0.length + 1 by omega, this]
            simp
          have hkp : 0 < k := by omega
          replace hk := Lib.hid hk
          replace hk1 := Lib.hid hk1
          obtain ⟨V, cv, rfl, _, _, hV, hcell⟩ := own_open hown2
          obtain ⟨g, rfl, hg1, hg2⟩ := hV (by omega)
          have hx := hcell g rfl _ _ hcf
          have hrow : (Value.slice (some ⟨g, 0, none⟩) k cv).ownBlock ≠ some b := fun he => by have := (hown2.lt _ he).1; omega
          have hcell := Lib.hid hcell
          have hd0 : decide ((0 : Int) < (k : Int)) = true := by simp; omega
          have j0 : (0 : Int) ≤ (i : Int) := by omega
          have j1 : (0 : Int) ≤ (i : Int) + 1 := by omega
          have t1 : ((i : Int) + 1).toNat = i + 1 := by omega
          have hki : (k : Int) ≤ 1000 := by omega
          have hk0 : (0 : Int) < (k : Int) := by omega
          have ek : IntKind.i64.wrap ((k : Int) - 1) = (k : Int) - 1 := IntWalk.i64_in _ (by omega)
          have jk : (0 : Int) ≤ (k : Int) - 1 := by omega
          have jk2 : (k : Int) - 1 < (k : Int) := by omega
          have tk : ((k : Int) - 1).toNat = k - 1 := by omega
          clear hcf hV
          by_cases ht : t = Pl i
          · subst ht
            have hext := Lib.hid (th_ext hpl0.out hth.out hlt hs0.out)
            have hset := Lib.hid (own_set hown2 ((k - 1) * 2 + 1) (.int .i64 (Pl (i + 1))) (by rw [encE_len, ← hk.out]; omega))
            have hfz := own_frozen' hown2 ((k - 1) * 2 + 1)
            generalize Pl i = y0 at *
            generalize Pl (i + 1) = y1 at *
            go_wp2_with fail
            go_quiet (fail)
            go_wp2
            go_roundw
            case rel =>
              have hk2 := hk1.out
              refine ⟨i + 1, R0 ++ [(f, y1)], _, rfl, by go_num, fun _ => by omega, fun h => by omega, hext.out, by simp; omega, ?_, ?_⟩
              · have h := hset.out
                rw [show (k - 1) * 2 + 1 = 2 * R0.length + 1 by omega, encE_set] at h
                rw [show (k - 1) * 2 + 1 = 2 * R0.length + 1 by omega, show (R0 ++ [(f, y1)]).length = k by simp; omega]
                exact h
              · have h := hnw2.out.drewN nq
                exact ⟨h.os, h.tape, h.output, by simp [World.setCell]; exact h.size, fun q hq => by
                  have := h.block q hq
                  have hne : g ≠ q := by omega
                  simp [World.setCell, Array.getElem?_modify, hne]
                  exact this⟩
            case measure => simp [intOf]; omega
          · have happ := Lib.hid (th_app hpl0.out hth.out hlt hs0.out (th_last hth.out ht))
            generalize Pl i = y0 at *
            generalize Pl (i + 1) = y1 at *
            have htb : (t == y0) = false := by simpa using ht
            have htb : (t = y0) = False := by simpa using ht
            go_wp2_with fail
            go_quiet (fail)
            go_wp2_with fail
            go_region_held3 (fun w' => w'.cell? ⟨b, off + i, none⟩ = some (.int .i64 y0) ∧ w'.cell? ⟨b, off + (i + 1), none⟩ = some (.int .i64 y1))
              (first
                | go_keep
                | (go_split_ands
                   refine ⟨?_, ?_⟩ <;> (rw [hgrow.cell_far _ (by simp; omega) (Ne.symm hrow)]; assumption)))
              ((refine step_append_lies _ (by rfl) _ _ _ (by rfl) w.heap.size 30 i0 _ 2 16 Try.underlying22 hi0 hz0 hz1 hz2 rfl (by decide) _ k (encE (R0 ++ [(f, t)])) (by rfl) ((hown2.alloc _).drew)
                  ⟨w1.heap.size, 0, none⟩ 1 1 [.int .i64 y0, .int .i64 y1] (by rfl) (by rfl) (World.news_of_block (cs := #[.int .i64 _, .int .i64 _]) (t := 30) (fr := (0, 0)) (heap_alloc_new w1 _)) (by simp [Value.oneCell'])
                  (by omega) (by unfold maxLen; omega) (by omega) (by have := hnw2.out.size; simp; omega) (w1.heap.size + 1) (by simp) ?_; intro gg cap1 wq hown1 hgrow hat hlt1))
            clear ew j0 j1 t1
            go_wp2
            go_roundw
            case rel => exact ⟨i + 1, (R0 ++ [(f, t)]) ++ [(y0, y1)], _, rfl, by go_num, fun _ => by omega, fun h => by omega, happ.out, by rw [List.length_append, ← hk.out]; simp; omega, by rw [encE_append, List.length_append, ← hk.out]; exact hown1, (hnw2.out.drewN _).append' hgrow (fun g hg => (hown2.lt g hg).1)⟩
            case measure => simp [intOf]; omega
    · have hnli : ¬ ((i : Int) + 1 < (m : Int)) := by omega
      have hfin : Hid (normR R ∧ ∀ x, S x = true ↔ inR R x) := by
        by_cases h0 : 0 < m
        · have : i = m - 1 := by have := hi1 h0; omega
          subst this
          exact th_end hpl0.out h0 hth.out
        · have hm0 : m = 0 := by omega
          have : i = 0 := hi2 hm0
          subst this
          subst hm0
          cases R with
          | nil => exact th_none hpl0.out
          | cons a l => simp at hRl
      have hRm : R.length ≤ m := by
        by_cases h0 : 0 < m
        · have := hi1 h0; omega
        · have := hi2 (by omega); omega
      have hi3 : i ≤ 1000 := by
        by_cases h0 : 0 < m
        · have := hi1 h0; omega
        · have := hi2 (by omega); omega
      have ew : IntKind.i64.wrap ((i : Int) + 1) = (i : Int) + 1 := IntWalk.i64_in _ (by omega)
      have hdl : decide ((i : Int) + 1 < (m : Int)) = false := by simp; omega
      have hown1 := Lib.hid hown
      have hnw1 := Lib.hid hnw
      obtain ⟨V, cv, rfl, _, _, _, _⟩ := own_open hown
      clear hown hnw hi1 hi2
      by_cases h2 : R.length ≤ 200
      · have hd : ¬ ((200 : Int) < (R.length : Int)) := by omega
        generalize hk : R.length = k at *
        go_wp2
        exact bodyPost_ret (v := .tuple #[.slice V k cv, .int .i64 0]) (by simp [results, Try.results44, go_sem]) rfl ⟨⟨_, R, hfin.out.1, hfin.out.2, by omega, by simpa [hk] using hown1.out, by simp [hk, h2]⟩, hnw1.out⟩
      · have hd : (200 : Int) < (R.length : Int) := by omega
        generalize hk : R.length = k at *
        go_wp2
        exact bodyPost_ret (v := .tuple #[.slice none 0 0, .int .i64 8]) (by simp [results, Try.results44, go_sem]) rfl ⟨⟨_, R, hfin.out.1, hfin.out.2, by omega, by simpa [hk] using hown1.out, by simp [hk, h2]⟩, hnw1.out⟩
end Go.Proofs.Ythkgcbjfgglciaa.spans
