/-
  The reference's withThing.
-/
import Derived.Test.YtmpaheaedaeakaaPoolRefList
namespace Go.Proofs.Ytmpaheaedaeakaa.pool
open Go.ChangeShapes Go.WideShapes Go.ChangeAt Go.RowKit Go.Proofs.Ytmpaheaedaeakaa.kit Go.Deep Go.Maps
set_option linter.unusedVariables false
set_option maxRecDepth 100000
theorem less_of {a b : Nm} (h : a < b) : Op.bytesLess a b = true := by rw [bytesLess_eq]; simpa using h
theorem less_not {a b : Nm} (h : ¬ a < b) : Op.bytesLess a b = false := by rw [bytesLess_eq]; simpa using h
theorem push_step {α : Type} [Inhabited α] {rd rd' : Value → α → Prop} {base g7 c7 : Nat} {e : TypeId} {W2 w7 : World} {ov : Value} {acc : List (Nm × α)} {V : Nat → Value} {y : Nm × α} {u : Value} {cs : Array Value} (hO : OL rd base e W2 ov acc V) (hgr : (W2.alloc (.cells cs e)).grownBy w7 ov.ownBlock)
    (ho : w7.ownsRow base e 2 (.slice (some ⟨g7, 0, none⟩) (acc.length + 1) c7) (acc.length + 1) (lsL acc V ++ [encStr y.1, u])) (hr : ∀ v y, rd v y → rd' v y) (hu : rd' u y.2) (h1 : u.oneCell' = true) :
    OL rd' base e w7 (.slice (some ⟨g7, 0, none⟩) (acc.length + 1) c7) (acc ++ [y]) (fun j => if j = acc.length then u else V j) ∧ Alt (fun g => ov.ownBlock = some g) W2 w7 :=
  ⟨hO.push ho hr hu h1, Alt.grown ((Alt.refl W2).alloc _) hgr fun r e => .inl e⟩
theorem bs_push {base : Nat} {e : TypeId} {W2 w7 : World} {ov : Value} {cs : Array Value} {n : Nat} {xs : List Value} (hO : W2.ownsRow base e 2 ov n xs) (he : e ≠ 5) (hgr : (W2.alloc (.cells cs e)).grownBy w7 ov.ownBlock) {v : Value} {b : By} (h : Bs W2 v b) : Bs w7 v b :=
  (h.new ((New.refl W2).alloc (.cells cs e))).grown hgr fun g cs' hb => own_ne_blk (hO.alloc (.cells cs e)) hb he
set_option maxHeartbeats 2000000 in
theorem withThing_any (v : Value) (l : Ths) (x : Nm) (A0 : Option Addr) (n0 k0 : Nat) (b : By) (w : World) (h : TL w v l) (hl : l.length ≤ 100) (hs : Asc l) (hb0 : Bs w (.slice A0 n0 k0) b) :
    Calls Try.prog 20 #[v, .agg #[encStr x, .slice A0 n0 k0]] w fun e w' => ∃ u, e = .returned u ∧ TL w' u (put l x b) ∧ New w w' := by
  obtain ⟨i0, hi0, hz0, hz1, hz2⟩ := info_parts infoThing
  obtain ⟨W0, hW0⟩ : ∃ W0, W0 = w.alloc (.cells #[encStr x, .slice A0 n0 k0] 64) := ⟨_, rfl⟩
  have hN0 : New w W0 := by rw [hW0]; exact (New.refl w).alloc _
  have hx0 : Hid (Blk W0 w.heap.size 64 #[encStr x, .slice A0 n0 k0]) := by show Blk _ _ _ _; rw [hW0]; exact Blk.fresh _ _ _
  have hxb : Hid (Bs W0 (.slice A0 n0 k0) b) := hb0.new hN0
  obtain ⟨A, c, U, rfl, hc1, hc2, _, h5, h6⟩ := TL.new h hN0
  have h6H := Lib.hid h6
  have hmo := Lib.hid (fun i h => wsum_more x b l (i := i) h)
  have hend := Lib.hid (wsum_end (x := x) (v := b) hs)
  obtain ⟨n, hn⟩ : ∃ n, Hid (n = l.length) := ⟨_, rfl⟩
  have hcell2 : Hid (0 < n → ∃ g off, A = some ⟨g, off, none⟩ ∧ g < W0.heap.size ∧ ∀ i, i < n → W0.cell? ⟨g, off + i * 2, none⟩ = some (encStr (nth l i).1) ∧ W0.cell? ⟨g, off + i * 2 + 1, none⟩ = some (U i)) := by
    rw [hn.out]
    exact h5
  have hfin : Hid (wsum x b (l.take n) = wsum x b l) := by show _ = _; rw [hn.out, List.take_length]
  have hN0H := Lib.hid hN0
  have hz00 : w.heap.size < W0.heap.size := hx0.out.lt
  have hz00e : Hid (W0.heap.size = w.heap.size + 1) := by show _ = _; rw [hW0]; simp
  rw [← hn.out] at hc1 hl ⊢
  clear h5 h6 h hN0 hs hb0
  go_enter Try.func20, Try.ntmps20
  go_upto_region 1 with fail
  rw [← hW0]
  clear hW0
  go_wp2_with fail
  go_loopw [11, 5, 6] (fun q ov pv wr => ∃ (i : Nat) (acc : Ths) (pf : Bool) (V : Nat → Value), q = .int .i64 (i : Nat) ∧ pv = .bool pf ∧ i ≤ n ∧ acc.length ≤ 2 * i ∧ Hid (wsum x b (l.take i) = (acc, pf)) ∧ Hid (OL (Bs wr) (w.heap.size + 1) 64 wr ov acc V) ∧ Hid (New W0 wr)) (fun q _ _ _ => n - (intOf q).toNat)
  case atStart => exact ⟨0, [], false, fun _ => .slice none 0 0, rfl, rfl, Nat.zero_le _, Nat.le_refl _, Lib.hid rfl, OL.nil _ _ _ _ _, Lib.hid (New.refl _)⟩
  case round =>
    obtain ⟨i, acc, pf, V, rfl, rfl, hi, hal, hacc, hO, hN⟩ := hrel
    have hx1 := hx0.out.new hN.out
    have hnz := hN.out.size
    by_cases hlt : i < n
    · obtain ⟨g, off, rfl, hg, hc⟩ := hcell2.out (by omega)
      obtain ⟨e0, e1⟩ := hc i hlt
      replace e0 := (hN.out.cell (p := ⟨g, off + i * 2, none⟩) hg).trans e0
      replace e1 := (hN.out.cell (p := ⟨g, off + i * 2 + 1, none⟩) hg).trans e1
      have hil : (i : Int) < (n : Int) := by omega
      have hmi := Lib.hid (hmo.out i (by have := hn.out; omega))
      obtain ⟨hb, h1⟩ := h6H.out i (by have := hn.out; omega)
      obtain ⟨Y, k, hY⟩ := hb.form
      have hbH := Lib.hid hb
      obtain ⟨yn, hyn⟩ : ∃ yn, Hid (yn = (nth l i).2.n) := ⟨_, rfl⟩
      rw [← hyn.out] at hY
      rw [hY] at e1 hbH
      obtain ⟨y, hy⟩ : ∃ y, Hid (y = (nth l i).1) := ⟨_, rfl⟩
      rw [← hy.out] at e0
      clear hc hb h1 hY
      obtain ⟨W2, hW2⟩ : ∃ W2, W2 = wr.alloc (.cells #[encStr y, .slice Y yn k] 64) := ⟨_, rfl⟩
      have hn2 : New wr W2 := by rw [hW2]; exact (New.refl wr).alloc _
      have hb2 : Blk W2 wr.heap.size 64 #[encStr y, .slice Y yn k] := by rw [hW2]; exact Blk.fresh _ _ _
      have hyH := Lib.hid hb2
      have q0 := hb2.cell 0
      have q1 := hb2.cell 1
      have hxx := hx1.new hn2
      have hxH := Lib.hid hxx
      have p0 := hxx.cell 0
      have p1 := hxx.cell 1
      simp at q0 q1 p0 p1
      have hO2 := OL.new (rd' := Bs W2) hO.out hn2 fun _ _ hb => hb.new hn2
      have hO2H := Lib.hid hO2
      have hown := hO2.1
      have hs2 : wr.heap.size < W2.heap.size := hb2.lt
      have hyy : Hid (Bs W2 (.slice Y yn k) (nth l i).2) := hbH.out.new (hN.out.next hn2)
      have hxy : Hid (Bs W2 (.slice A0 n0 k0) b) := hxb.out.new (hN.out.next hn2)
      have hNW : Hid (New W0 W2) := hN.out.next hn2
      have hovlt : Hid (∀ g, u5.ownBlock = some g → w.heap.size < g ∧ g < wr.heap.size) := fun g hg => by
        have := hO.out.1.lt g hg
        omega
      clear hb2 hn2 hO2 hxx hx1
      cases pf with
      | true =>
        by_cases e : y = x
        · have hd : (y == x) = true := by simp [e]
          have hnx : Hid (wsum x b (l.take (i + 1)) = (acc, true)) := by
            show _ = _
            rw [hmi.out, hacc.out]
            unfold wst
            simp [← hy.out, e]
          clear e
          go_upto_region 6 with fail
          rw [← hW2]
          clear hW2
          go_wp2
          go_roundw
          case rel => exact ⟨i + 1, acc, true, _, by go_num, rfl, by omega, by skip; omega, Lib.hid hnx.out, Lib.hid hO2H.out, hNW⟩
          case measure => simp [intOf]; omega

        · have hd : (y == x) = false := by simp [e]
          have hnx : Hid (wsum x b (l.take (i + 1)) = (acc ++ [nth l i], true)) := by
            show _ = _
            rw [hmi.out, hacc.out]
            unfold wst
            simp [← hy.out, e]
          clear e
          go_upto_region 6 with fail
          rw [← hW2]
          clear hW2
          go_wp2_with (at_builtin; refine wpList_append_lies _ rfl _ _ 39 rfl (w.heap.size + 1) 64 i0 _ 2 40 Try.underlying39 hi0 hz0 hz1 hz2 rfl (by decide) u5 _ (lsL (acc) (V)) rfl (hown.alloc _) ⟨W2.heap.size, 0, none⟩ 1 1 [encStr y, .slice Y yn k] rfl rfl (World.news_of_block (cs := #[.string _, .slice _ _ _]) (t := 64) (fr := (0, 0)) (heap_alloc_new W2 _)) (by simp [Value.oneCell']) (by omega) (by unfold maxLen; omega) (by omega) (by simp; omega) _ rfl ?_; intro g6 c6 w6 hown6 hgr6 hat6 hlt6; have hgr6 := Lib.hid hgr6; have hown6 := Lib.hid hown6; have hat6 := Lib.hid hat6)
          rw [hy.out] at hown6
          have hq6 := Lib.hid (push_step (rd' := Bs w6) (y := nth l i) (u := .slice Y yn k) (cs := #[encStr y, .slice Y yn k]) hO2H.out hgr6.out hown6.out (fun _ _ hb => bs_push hO2H.out.1 (by decide) hgr6.out hb) (bs_push hO2H.out.1 (by decide) hgr6.out hyy.out) rfl)
          have hbs6 : Hid (∀ v b, Bs W2 v b → Bs w6 v b) := fun v b hb => bs_push hO2H.out.1 (by decide) hgr6.out hb
          have hnw6 : Hid (New W0 w6) := (hNW.out.alloc _).grown hgr6.out fun r e => by have h9 := (hO2H.out.1.lt r e).1; have h8 := hz00e.out; omega
          go_wp2
          go_roundw
          case rel => exact ⟨i + 1, acc ++ [nth l i], true, _, by go_num, rfl, by omega, by rw [List.length_append, List.length_singleton]; omega, Lib.hid hnx.out, Lib.hid hq6.out.1, hnw6⟩
          case measure => simp [intOf]; omega

      | false =>
        by_cases hlt2 : x < y
        · have hne : y ≠ x := fun e => nm_irrefl x (by rw [e] at hlt2; exact hlt2)
          have hd : (y == x) = false := by simp [hne]
          have hd1 : (x == y) = false := by simp [Ne.symm hne]
          have hd2 : Op.bytesLess x y = true := less_of hlt2
          have hnx : Hid (wsum x b (l.take (i + 1)) = (acc ++ [(x, b)] ++ [nth l i], true)) := by
            show _ = _
            rw [hmi.out, hacc.out]
            unfold wst
            have hle : x ≤ (nth l i).1 := by rw [← hy.out]; exact List.le_of_lt hlt2
            simp [← hy.out, hne]
            simp [hy.out, hle]
          have hkeepX : Hid (∀ w7, (W2.alloc (.cells #[encStr x, .slice A0 n0 k0] 64)).grownBy w7 u5.ownBlock → w7.cell? ⟨wr.heap.size, 0, none⟩ = some (encStr y) ∧ w7.cell? ⟨wr.heap.size, 1, none⟩ = some (.slice Y yn k) ∧ w7.cell? ⟨w.heap.size, 0, none⟩ = some (encStr x)) := fun w7 hg => by
            have hA : Alt (fun g => u5.ownBlock = some g) W2 w7 := Alt.grown ((Alt.refl W2).alloc _) hg fun r e => .inl e
            have h1 := hA.blk hyH.out fun e => by have := hovlt.out _ e; omega
            have h2 := hA.blk hxH.out fun e => by have := hovlt.out _ e; omega
            exact ⟨by rw [h1.cell 0]; rfl, by rw [h1.cell 1]; rfl, by rw [h2.cell 0]; rfl⟩
          clear hlt2 hne
          go_upto_region 6 with fail
          rw [← hW2]
          clear hW2
          go_wp2_with (first | (at_builtin; refine wpList_append_lies _ rfl _ _ 39 rfl (w.heap.size + 1) 64 i0 _ 2 40 Try.underlying39 hi0 hz0 hz1 hz2 rfl (by decide) u5 _ (lsL (acc) (V)) rfl (hown.alloc _) ⟨W2.heap.size, 0, none⟩ 1 1 [encStr x, .slice A0 n0 k0] rfl rfl (World.news_of_block (cs := #[.string _, .slice _ _ _]) (t := 64) (fr := (0, 0)) (heap_alloc_new W2 _)) (by simp [Value.oneCell']) (by omega) (by unfold maxLen; omega) (by omega) (by simp; omega) _ rfl ?_; intro g6 c6 w6 hown6 hgr6 hat6 hlt6; obtain ⟨q0, q1, p0⟩ := hkeepX.out w6 hgr6; have hgr6 := Lib.hid hgr6; have hown6 := Lib.hid hown6; have hat6 := Lib.hid hat6) | (at_builtin; have hq6 := Lib.hid (push_step (rd' := Bs w6) (y := (x, b)) (u := .slice A0 n0 k0) (cs := #[encStr x, .slice A0 n0 k0]) hO2H.out hgr6.out hown6.out (fun _ _ hb => bs_push hO2H.out.1 (by decide) hgr6.out hb) (bs_push hO2H.out.1 (by decide) hgr6.out hxy.out) rfl); have hown6' := hq6.out.1.1; have hw6 : W0.heap.size ≤ w6.heap.size := Nat.le_trans hNW.out.size hq6.out.2.size; refine wpList_append_lies _ rfl _ _ 39 rfl (w.heap.size + 1) 64 i0 _ 2 40 Try.underlying39 hi0 hz0 hz1 hz2 rfl (by decide) (.slice (some ⟨g6, 0, none⟩) (acc.length + 1) c6) _ (lsL (acc ++ [(x, b)]) (fun j => if j = acc.length then .slice A0 n0 k0 else V j)) rfl (hown6'.alloc _) ⟨w6.heap.size, 0, none⟩ 1 1 [encStr y, .slice Y yn k] rfl rfl (World.news_of_block (cs := #[.string _, .slice _ _ _]) (t := 64) (fr := (0, 0)) (heap_alloc_new w6 _)) (by simp [Value.oneCell']) (by omega) (by unfold maxLen; rw [List.length_append, List.length_singleton]; omega) (by rw [List.length_append, List.length_singleton]; omega) (by simp; omega) _ rfl ?_; intro g7 c7 w7 hown7 hgr7 hat7 hlt7; have hgr7 := Lib.hid hgr7; have hown7 := Lib.hid hown7; have hat7 := Lib.hid hat7))
          rw [hy.out] at hown7
          have hq6 := Lib.hid (push_step (rd' := Bs w6) (y := (x, b)) (u := .slice A0 n0 k0) (cs := #[encStr x, .slice A0 n0 k0]) hO2H.out hgr6.out hown6.out (fun _ _ hb => bs_push hO2H.out.1 (by decide) hgr6.out hb) (bs_push hO2H.out.1 (by decide) hgr6.out hxy.out) rfl)
          have hbs6 : Hid (∀ v b, Bs W2 v b → Bs w6 v b) := fun v b hb => bs_push hO2H.out.1 (by decide) hgr6.out hb
          have hnw6 : Hid (New W0 w6) := (hNW.out.alloc _).grown hgr6.out fun r e => by have h9 := (hO2H.out.1.lt r e).1; have h8 := hz00e.out; omega
          have hq7 := Lib.hid (push_step (rd' := Bs w7) (y := nth l i) (u := .slice Y yn k) (cs := #[encStr y, .slice Y yn k]) hq6.out.1 hgr7.out hown7.out (fun _ _ hb => bs_push hq6.out.1.1 (by decide) hgr7.out hb) (bs_push hq6.out.1.1 (by decide) hgr7.out (hbs6.out _ _ hyy.out)) rfl)
          have hbs7 : Hid (∀ v b, Bs w6 v b → Bs w7 v b) := fun v b hb => bs_push hq6.out.1.1 (by decide) hgr7.out hb
          have hnw7 : Hid (New W0 w7) := (hnw6.out.alloc _).grown hgr7.out fun r e => by have h9 := (hq6.out.1.1.lt r e).1; have h8 := hz00e.out; omega
          go_wp2
          go_roundw
          case rel => exact ⟨i + 1, acc ++ [(x, b)] ++ [nth l i], true, _, by go_num, rfl, by omega, by rw [List.length_append, List.length_singleton, List.length_append, List.length_singleton]; omega, Lib.hid hnx.out, Lib.hid (by have h := hq7.out.1; rw [List.length_append, List.length_singleton] at h; exact h), hnw7⟩
          case measure => simp [intOf]; omega

        · by_cases e : y = x
          · have hd : (y == x) = true := by simp [e]
            have hd1 : (x == y) = true := by simp [e]
            have hd2 : Op.bytesLess x y = false := less_not hlt2
            have hnx : Hid (wsum x b (l.take (i + 1)) = (acc ++ [(x, b)], true)) := by
              show _ = _
              rw [hmi.out, hacc.out]
              unfold wst
              have hle : x ≤ (nth l i).1 := by rw [← hy.out, e]; exact List.le_refl _
              simp [← hy.out, e]
              try simp [← hy.out, e]
            have hkeepX : Hid (∀ w7, (W2.alloc (.cells #[encStr x, .slice A0 n0 k0] 64)).grownBy w7 u5.ownBlock → w7.cell? ⟨wr.heap.size, 0, none⟩ = some (encStr y) ∧ w7.cell? ⟨wr.heap.size, 1, none⟩ = some (.slice Y yn k) ∧ w7.cell? ⟨w.heap.size, 0, none⟩ = some (encStr x)) := fun w7 hg => by
              have hA : Alt (fun g => u5.ownBlock = some g) W2 w7 := Alt.grown ((Alt.refl W2).alloc _) hg fun r e => .inl e
              have h1 := hA.blk hyH.out fun e => by have := hovlt.out _ e; omega
              have h2 := hA.blk hxH.out fun e => by have := hovlt.out _ e; omega
              exact ⟨by rw [h1.cell 0]; rfl, by rw [h1.cell 1]; rfl, by rw [h2.cell 0]; rfl⟩
            clear e hlt2
            go_upto_region 6 with fail
            rw [← hW2]
            clear hW2
            go_wp2_with (at_builtin; refine wpList_append_lies _ rfl _ _ 39 rfl (w.heap.size + 1) 64 i0 _ 2 40 Try.underlying39 hi0 hz0 hz1 hz2 rfl (by decide) u5 _ (lsL (acc) (V)) rfl (hown.alloc _) ⟨W2.heap.size, 0, none⟩ 1 1 [encStr x, .slice A0 n0 k0] rfl rfl (World.news_of_block (cs := #[.string _, .slice _ _ _]) (t := 64) (fr := (0, 0)) (heap_alloc_new W2 _)) (by simp [Value.oneCell']) (by omega) (by unfold maxLen; omega) (by omega) (by simp; omega) _ rfl ?_; intro g6 c6 w6 hown6 hgr6 hat6 hlt6; obtain ⟨q0, q1, p0⟩ := hkeepX.out w6 hgr6; have hgr6 := Lib.hid hgr6; have hown6 := Lib.hid hown6; have hat6 := Lib.hid hat6)
            have hq6 := Lib.hid (push_step (rd' := Bs w6) (y := (x, b)) (u := .slice A0 n0 k0) (cs := #[encStr x, .slice A0 n0 k0]) hO2H.out hgr6.out hown6.out (fun _ _ hb => bs_push hO2H.out.1 (by decide) hgr6.out hb) (bs_push hO2H.out.1 (by decide) hgr6.out hxy.out) rfl)
            have hbs6 : Hid (∀ v b, Bs W2 v b → Bs w6 v b) := fun v b hb => bs_push hO2H.out.1 (by decide) hgr6.out hb
            have hnw6 : Hid (New W0 w6) := (hNW.out.alloc _).grown hgr6.out fun r e => by have h9 := (hO2H.out.1.lt r e).1; have h8 := hz00e.out; omega
            clear hown
            go_wp2
            go_roundw
            case rel => exact ⟨i + 1, acc ++ [(x, b)], true, _, by go_num, rfl, by omega, by rw [List.length_append, List.length_singleton]; omega, Lib.hid hnx.out, Lib.hid hq6.out.1, hnw6⟩
            case measure => simp [intOf]; omega

          · have hd : (y == x) = false := by simp [e]
            have hd1 : (x == y) = false := by simp [Ne.symm e]
            have hd2 : Op.bytesLess x y = false := less_not hlt2
            have hnx : Hid (wsum x b (l.take (i + 1)) = (acc ++ [nth l i], false)) := by
              show _ = _
              rw [hmi.out, hacc.out]
              unfold wst
              have hle : ¬ x ≤ (nth l i).1 := fun hh => by
                rw [← hy.out] at hh
                rcases List.le_iff_lt_or_eq.1 hh with h1 | h1
                · exact hlt2 h1
                · exact e h1.symm
              simp [hle]
              simp [← hy.out, e]
            clear e hlt2
            go_upto_region 6 with fail
            rw [← hW2]
            clear hW2
            go_wp2_with (at_builtin; refine wpList_append_lies _ rfl _ _ 39 rfl (w.heap.size + 1) 64 i0 _ 2 40 Try.underlying39 hi0 hz0 hz1 hz2 rfl (by decide) u5 _ (lsL (acc) (V)) rfl (hown.alloc _) ⟨W2.heap.size, 0, none⟩ 1 1 [encStr y, .slice Y yn k] rfl rfl (World.news_of_block (cs := #[.string _, .slice _ _ _]) (t := 64) (fr := (0, 0)) (heap_alloc_new W2 _)) (by simp [Value.oneCell']) (by omega) (by unfold maxLen; omega) (by omega) (by simp; omega) _ rfl ?_; intro g6 c6 w6 hown6 hgr6 hat6 hlt6; have hgr6 := Lib.hid hgr6; have hown6 := Lib.hid hown6; have hat6 := Lib.hid hat6)
            rw [hy.out] at hown6
            have hq6 := Lib.hid (push_step (rd' := Bs w6) (y := nth l i) (u := .slice Y yn k) (cs := #[encStr y, .slice Y yn k]) hO2H.out hgr6.out hown6.out (fun _ _ hb => bs_push hO2H.out.1 (by decide) hgr6.out hb) (bs_push hO2H.out.1 (by decide) hgr6.out hyy.out) rfl)
            have hbs6 : Hid (∀ v b, Bs W2 v b → Bs w6 v b) := fun v b hb => bs_push hO2H.out.1 (by decide) hgr6.out hb
            have hnw6 : Hid (New W0 w6) := (hNW.out.alloc _).grown hgr6.out fun r e => by have h9 := (hO2H.out.1.lt r e).1; have h8 := hz00e.out; omega
            go_wp2
            go_roundw
            case rel => exact ⟨i + 1, acc ++ [nth l i], false, _, by go_num, rfl, by omega, by rw [List.length_append, List.length_singleton]; omega, Lib.hid hnx.out, Lib.hid hq6.out.1, hnw6⟩
            case measure => simp [intOf]; omega

    · have him : n = i := by omega
      subst him
      rw [hfin.out] at hacc
      have hend2 := Lib.hid hend.out
      rw [hacc.out] at hend2
      have p0 := hx1.cell 0
      have p1 := hx1.cell 1
      simp at p0 p1
      have hil : ¬ (n : Int) < (n : Int) := by omega
      clear hacc
      cases pf with
      | true =>
        have hz : Hid (TL wr u5 (put l x b)) := by
          show TL _ _ _
          have := hend2.out
          simp only [if_true] at this
          rw [← this]
          exact hO.out.ll
        clear hO hend2
        go_wp2
        exact bodyPost_ret (v := u5) (by simp [results, Try.results20, go_sem]) rfl ⟨_, rfl, hz.out, hN0H.out.next hN.out⟩
      | false =>
        have hown := hO.out.1
        have hxy : Hid (Bs wr (.slice A0 n0 k0) b) := hxb.out.new hN.out
        have hO2H : Hid (OL (Bs wr) (w.heap.size + 1) 64 wr u5 acc V) := hO
        have hNW : Hid (New W0 wr) := hN
        go_wp2_with (at_builtin; refine wpList_append_lies _ rfl _ _ 39 rfl (w.heap.size + 1) 64 i0 _ 2 40 Try.underlying39 hi0 hz0 hz1 hz2 rfl (by decide) u5 _ (lsL (acc) (V)) rfl (hown.alloc _) ⟨wr.heap.size, 0, none⟩ 1 1 [encStr x, .slice A0 n0 k0] rfl rfl (World.news_of_block (cs := #[.string _, .slice _ _ _]) (t := 64) (fr := (0, 0)) (heap_alloc_new wr _)) (by simp [Value.oneCell']) (by omega) (by unfold maxLen; omega) (by omega) (by simp; omega) _ rfl ?_; intro g6 c6 w6 hown6 hgr6 hat6 hlt6; have hgr6 := Lib.hid hgr6; have hown6 := Lib.hid hown6; have hat6 := Lib.hid hat6)
        have hq6 := Lib.hid (push_step (rd' := Bs w6) (y := (x, b)) (u := .slice A0 n0 k0) (cs := #[encStr x, .slice A0 n0 k0]) hO2H.out hgr6.out hown6.out (fun _ _ hb => bs_push hO2H.out.1 (by decide) hgr6.out hb) (bs_push hO2H.out.1 (by decide) hgr6.out hxy.out) rfl)
        have hbs6 : Hid (∀ v b, Bs wr v b → Bs w6 v b) := fun v b hb => bs_push hO2H.out.1 (by decide) hgr6.out hb
        have hnw6 : Hid (New W0 w6) := (hNW.out.alloc _).grown hgr6.out fun r e => by have h9 := (hO2H.out.1.lt r e).1; have h8 := hz00e.out; omega

        have hz : Hid (TL w6 (.slice (some ⟨g6, 0, none⟩) (acc.length + 1) c6) (put l x b)) := by
          show TL _ _ _
          have := hend2.out
          simp only [Bool.false_eq_true, if_false] at this
          rw [← this]
          exact hq6.out.1.ll
        exact bodyPost_ret (v := .slice (some ⟨g6, 0, none⟩) (acc.length + 1) c6) (by simp [results, Try.results20, go_sem]) rfl ⟨_, rfl, hz.out, hN0H.out.next hnw6.out⟩
end Go.Proofs.Ytmpaheaedaeakaa.pool
