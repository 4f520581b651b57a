/-
  Contract of (*keeper).drop: a snapshot goes.
-/
import Derived.Test.YtiffgeglbafenaaSnapCut
namespace Go.Proofs.Ytiffgeglbafenaa.snap
open Go.ChangeShapes Go.WideShapes Go.ChangeAt Go.RowKit Go.Proofs.Ytiffgeglbafenaa.kit Go.Deep
set_option linter.unusedVariables false
set_option maxRecDepth 100000
theorem dAt_le (s : KS) (i j q : Nat) (L : List Nat) : (dAt s i (L.take j) q).length ≤ (dAt s i L q).length := by
  unfold dAt
  split
  · exact Nat.le_refl _
  · unfold upd
    split
    · rw [List.length_append, List.length_append]
      have := ((List.take_sublist j L).filter (fun b => !goes s i b)).length_le
      omega
    · exact Nat.le_refl _
set_option maxHeartbeats 4000000 in
theorem drop_some (base kb i : Nat) (s : KS) (z : Int) (bv sv : Value) (dv : Nat → Value) (w : World) (hK : Km base kb s bv sv dv w) (hn2 : s.n ≤ 200) (hm9 : s.m ≤ 9) (h : find s.num z s.m = some i) (hI : ∀ b, b ∈ s.dead i → b < s.n) (hnd : (s.dead i).Nodup) (hlen : ∀ j, j < s.m → (dAt s i (s.dead i) j).length ≤ 400) (hbase : base ≤ w.heap.size) :
    Calls Try.prog 19 #[ptr kb, .int .i64 z] w (MoveP base kb s { s with m := s.m - 1, num := cutAt s.num i, made := cutAt s.made i, lst := cutAt s.lst i, dead := cutAt (dAt s i (s.dead i)) i } 0 ((List.range s.n).filter fun b => (s.dead i).contains b && goes s i b) bv sv dv w) := by
  obtain ⟨him, _, _⟩ := find_some h
  obtain ⟨i0, hi0, hz0, hz1', hz2'⟩ := info_parts infoInt
  obtain ⟨W1, hW1, hN1, hr, hz, hcz⟩ := drop_mem (w := w) (z := z)
  have hK1 := hK.new hN1
  have k2 := hK1.kbk.cell 2
  simp at k2
  obtain ⟨B, d, rfl, _, hdm, hB, hcell⟩ := own_open hK1.so
  obtain ⟨gs, rfl, _, hgs⟩ := hB (by omega)
  obtain ⟨Bb, nb, rfl, _, hbm, _, _⟩ := own_open hK1.bo
  have hidx := Lib.hid (Index_any (some ⟨gs, 0, none⟩) s.m d s.num s.made dv w.heap.size z W1 hm9 (fun h0 => ⟨gs, rfl, hgs⟩) hcell hcz)
  rw [h] at hidx
  obtain ⟨ah, hah⟩ : ∃ ah : Int, Hid (ah = if i = 0 then -1 else (s.made (i - 1) : Int)) := ⟨_, rfl⟩
  have hgo : Hid (∀ b, goes s i b = true ↔ ah < (s.born b : Int)) := fun b => by
    rw [hah.out]
    unfold goes
    split <;> simp_all <;> omega
  have hkh := Lib.hid hK
  have hnh := Lib.hid hN1
  have hK1H := Lib.hid hK1
  have hinit := Lib.hid (show Dl base kb i s [] (.slice Bb s.n nb) (.slice (some ⟨gs, 0, none⟩) s.m d) dv dv (.slice none 0 0) w W1 from
    ⟨by rw [dAt_nil]; exact hK1, World.ownsRow_nil _ _ _ _, fun g _ => by simp [Value.ownBlock], Alt.of_new hN1, fun g hg => .inl hg, rfl, hr.out⟩)
  clear hK hN1 hK1 hB hcell
  go_enter Try.func19, Try.ntmps19
  go_upto_region 1 with fail
  rw [← hW1]
  clear hW1
  go_wp2_with fail
  refine hidx.out.mono ?_
  rintro e w2 ⟨rfl, hn2'⟩
  have hn2H := Lib.hid hn2'
  have hK2 := hK1H.out.new hn2'
  have k2' := hK2.kbk.cell 2
  simp at k2'
  obtain ⟨B', d', e', _, _, _, hcell'⟩ := own_open hK2.so
  cases e'
  have hc2 := Lib.hid (hcell' gs rfl)
  have hK2H := Lib.hid hK2
  have him' : (i : Int) < (s.m : Int) := by omega
  have hm9' : (s.m : Int) ≤ 9 := by omega
  clear hcell' hK2
  dsimp only [idxI]
  go_upto_if 20 with fail
  go_cut [6] (fun t wx => t = .int .i64 ah ∧ wx = w2)
  case first =>
    by_cases hi0' : i = 0
    · have e1 : ah = -1 := by rw [hah.out, if_pos hi0']
      go_wp2
      go_meet
      exact ⟨by rw [e1], rfl⟩
    · obtain ⟨q, hq⟩ : ∃ q, Hid (i = q + 1) := ⟨i - 1, show i = _ by omega⟩
      have e1 : ah = (s.made q : Int) := by rw [hah.out, if_neg hi0', show i - 1 = q by have := hq.out; omega]
      have hpos : (0 : Int) < (i : Int) := by omega
      have hpos' : 0 < i := by omega
      have hq' : (i : Int) - 1 = (q : Nat) := by have := hq.out; omega
      have hwr : IntKind.i64.wrap (q : Int) = (q : Int) := IntWalk.i64_in _ (by have := hq.out; omega)
      have hqm : (q : Int) < (s.m : Int) := by have := hq.out; omega
      have c1 := hc2.out _ _ (tripL_at _ _ _ s.m q (by have := hq.out; omega)).2.1
      go_wp2
      go_meet
      exact ⟨by rw [e1], rfl⟩
  case rest =>
    obtain ⟨rfl, rfl⟩ := hcut
    obtain ⟨A, cd, hA, hlc, hcm, hAg, hAc⟩ := own_open (hK2H.out.dd.own i him)
    have c2 := hc2.out _ _ (tripL_at _ _ _ s.m i him).2.2
    rw [hA] at c2
    have hAH := Lib.hid hA
    have hAgH := Lib.hid hAg
    have hdl := hlen i him
    rw [dAt_self] at hdl
    have hl4 : ((s.dead i).length : Int) ≤ 400 := by omega
    have hst := Lib.hid (show Dl base kb i s ((s.dead i).take 0) (.slice Bb s.n nb) (.slice (some ⟨gs, 0, none⟩) s.m d) dv dv (.slice none 0 0) w wc from by
      rw [List.take_zero]
      have h0 := hinit.out
      exact ⟨h0.km.new hn2H.out, h0.go.1 |> fun _ => own_new h0.go hn2H.out, h0.ap, h0.al.next hn2H.out, h0.kk, h0.sl, h0.rb.new hn2H.out⟩)
    clear hA hAg hAc hinit
    go_wp2_with fail
    go_loopw [39, 7] (fun x gv wr => ∃ (j : Nat) (dvj : Nat → Value), x = .int .i64 j ∧ j ≤ (s.dead i).length ∧ Hid (Dl base kb i s ((s.dead i).take j) (.slice Bb s.n nb) (.slice (some ⟨gs, 0, none⟩) s.m d) dv dvj gv w wr)) (fun x _ _ => (s.dead i).length - (intOf x).toNat)
    case atStart => exact ⟨0, dv, rfl, by omega, hst⟩
    case round =>
      obtain ⟨j, dvj, rfl, hj, hD⟩ := hrel
      by_cases hlt : j < (s.dead i).length
      · obtain ⟨b, hb⟩ : ∃ b, (s.dead i)[j]? = some b := ⟨_, List.getElem?_eq_getElem hlt⟩
        have hbn := hI b (List.mem_of_getElem? hb)
        have hoi : OwnI wr base (dvj i) (dAt s i ((s.dead i).take j) i) := hD.out.km.dd.own i him
        rw [hD.out.sl, hAH.out, dAt_self] at hoi
        obtain ⟨A', c', e', _, _, hA', hc'⟩ := own_open hoi
        cases e'
        obtain ⟨gd, rfl, _, _⟩ := hA' (by omega)
        have cb := hc' gd rfl j (.int .i64 (b : Nat)) (by unfold intL; rw [List.getElem?_map, hb]; rfl)
        have k1 := hD.out.km.kbk.cell 1
        have k3 := hD.out.km.kbk.cell 2
        simp at k1 k3
        obtain ⟨A2, c2', e2, _, _, hA2, hc2'⟩ := own_open hD.out.km.bo
        cases e2
        obtain ⟨gb, rfl, _, _⟩ := hA2 (by show 0 < s.n; omega)
        have cbo := hc2' gb rfl (b * 2) _ (pairL_at _ _ s.n b hbn).1
        have hlt' : (j : Int) < ((s.dead i).length : Int) := by omega
        have hbn' : (b : Int) < (s.n : Int) := by omega
        have hn2' : (s.n : Int) ≤ 200 := by omega
        have htk : Hid ((s.dead i).take (j + 1) = (s.dead i).take j ++ [b]) := by
          show _ = _
          rw [List.take_add_one, hb]
          rfl
        have hwz := hD.out.al.size
        have hgoo := hD.out.go
        have hgl : Hid (((s.dead i).take j |>.filter fun b => goes s i b).length ≤ 400) := by
          have h1 := List.length_filter_le (fun b => goes s i b) ((s.dead i).take j)
          have h2 := List.length_take_le j (s.dead i)
          show _ ≤ _
          omega
        have hlenH := Lib.hid hlen
        clear hoi hA' hc' hA2 hc2' hb hI hlen hnd
        by_cases hgb : goes s i b = true
        · have hah1 : ah < (s.born b : Int) := (hgo.out b).1 hgb
          go_wp2_with (at_builtin; refine wpList_append_lies _ rfl _ _ 33 rfl w.heap.size 3 i0 _ 1 8 Try.underlying33 hi0 hz0 hz1' hz2' rfl (by decide) u7 _ _ rfl (hgoo.alloc _) ⟨wr.heap.size, 0, none⟩ 1 1 [.int .i64 (b : Nat)] rfl rfl (World.news_of_block (cs := #[.int .i64 _]) (t := 3) (fr := (0, 0)) (heap_alloc_new wr _)) (by simp [Value.oneCell']) (by omega) (by have := hgl.out; unfold maxLen; omega) (by have := hgl.out; omega) (by simp; omega) _ rfl ?_; intro g4 c4 w4 hown4 hgr4 hat4 hlt4)
          refine ⟨⟨j + 1, dvj, by go_num, by omega, ?_⟩, by simp [intOf]; omega⟩
          show Dl _ _ _ _ _ _ _ _ _ _ _ _
          rw [htk.out]
          exact hD.out.more hgb ((New.refl wr).alloc _) hwz hgr4 hown4 fun g hg => by
            have : g4 = g := by simpa [Value.ownBlock] using hg
            subst this
            rcases hat4 with h1 | h1
            · exact .inl h1
            · exact .inr (by omega)
        · have hgf : goes s i b = false := by simpa using hgb
          obtain ⟨q, hq⟩ : ∃ q, Hid (i = q + 1) := by
            refine ⟨i - 1, ?_⟩
            show i = _
            have : i ≠ 0 := fun e => by
              subst e
              simp [goes] at hgf
            omega
          have hqo := hq.out
          have hql := hlenH.out q (by omega)
          have hqj := dAt_le s i j q (s.dead i)
          have hqm : q < s.m := by omega
          have hah1 : ¬ ah < (s.born b : Int) := fun h1 => hgb ((hgo.out b).2 h1)
          have hq' : (i : Int) - 1 = (q : Nat) := by omega
          have hwr : IntKind.i64.wrap (q : Int) = (q : Int) := IntWalk.i64_in _ (by omega)
          have hqm' : (q : Int) < (s.m : Int) := by omega
          have hownq : OwnI wr base (dvj q) (dAt s i ((s.dead i).take j) q) := hD.out.km.dd.own q hqm
          have hso := hD.out.km.so
          obtain ⟨A3, c3, e3, _, _, _, hc3⟩ := own_open hso
          cases e3
          have s2 := hc3 gs rfl _ _ (tripL_at _ _ _ s.m q hqm).2.2
          have hsoH := Lib.hid hso
          have hkbH := Lib.hid hD.out.km.kbk
          have s2a : (wr.alloc (.cells #[.int .i64 (b : Nat)] 3)).cell? ⟨gs, q * 3 + 2, none⟩ = some (dvj q) := (((New.refl wr).alloc _).cell (lt_of_cell s2)).trans s2
          have k3a : (wr.alloc (.cells #[.int .i64 (b : Nat)] 3)).cell? ⟨kb, 2, none⟩ = _ := (((New.refl wr).alloc _).cell (lt_of_cell k3)).trans k3
          have hbw : base ≤ wr.heap.size := Nat.le_trans hbase hwz
          have hnA : New wr (wr.alloc (.cells #[.int .i64 (b : Nat)] 3)).drew := ((New.refl wr).alloc _).drew
          have hsoA := Lib.hid (own_new hso hnA)
          have hqA := Lib.hid (own_new hownq hnA)
          have hkbA := Lib.hid (hkbH.out.new hnA)
          have hnAH := Lib.hid hnA
          clear hc3 hso hqo hnA
          go_wp2
          go_region_law
            (first
              | (refine step_append_lies _ (by rfl) _ _ 33 (by rfl) base 3 i0 _ 1 8 Try.underlying33 hi0 hz0 hz1' hz2' rfl (by decide) (dvj q) _ _ (by rfl) (hownq.alloc _) ⟨wr.heap.size, 0, none⟩ 1 1 [.int .i64 (b : Nat)] (by rfl) (by rfl) (World.news_of_block (cs := #[.int .i64 _]) (t := 3) (fr := (0, 0)) (heap_alloc_new wr _)) (by simp [Value.oneCell']) (by omega) (by unfold maxLen; omega) (by omega) (by simp; omega) (wr.heap.size + 1) (by simp) ?_; intro g7 c7 w7 hown7 hgr7 hat7 hlt7
                 have so7 := own_keepO hsoA.out hqA.out (by decide) hgr7
                 have kb7 := hkbA.out.grown hgr7 (own_ne_blk hqA.out hkbA.out (by decide))
                 have k7 := kb7.cell 2
                 have y7 := own_frozen so7 (q * 3 + 2)
                 have s7 : w7.cell? ⟨gs, q * 3 + 2, none⟩ = some (dvj q) := by
                   obtain ⟨A', c', e, _, _, _, hc'⟩ := own_open so7
                   cases e
                   exact hc' gs rfl _ _ (tripL_at _ _ _ s.m q hqm).2.2
                 simp at k7))
          all_goals
            have hfin := Lib.hid (hD.out.back (v7 := .slice (some ⟨g7, 0, none⟩) ((dAt s i ((s.dead i).take j) q).length + 1) c7) hq.out him hgf hnAH.out hwz hgr7 hown7 fun g hg => by
              have : g7 = g := by simpa [Value.ownBlock] using hg
              subst this
              rcases hat7 with h1 | h1
              · exact .inl h1
              · exact .inr (by rw [h1]; simp [World.drew]))
            clear so7 kb7 k7 y7 s7 hown7 hgr7
            go_wp2
            refine ⟨⟨j + 1, upd dvj q (.slice (some ⟨g7, 0, none⟩) ((dAt s i ((s.dead i).take j) q).length + 1) c7), by go_num, by omega, ?_⟩, by simp [intOf]; omega⟩
            show Dl _ _ _ _ _ _ _ _ _ _ _ _
            rw [htk.out]
            exact hfin.out
      · have hjn : j = (s.dead i).length := by omega
        have hD1 : Dl base kb i s (s.dead i) (.slice Bb s.n nb) (.slice (some ⟨gs, 0, none⟩) s.m d) dv dvj u7 w wr := by
          have := hD.out
          rw [hjn, List.take_length] at this
          exact this
        subst hjn
        have hwz := hD1.al.size
        have k3 := hD1.km.kbk.cell 2
        simp at k3
        have hdel := Lib.hid (Delete_m base i s.m gs d _ wr hD1.km.so (tripL_one fun j hj => hD1.km.one j hj) him hm9)
        have hDH := Lib.hid hD1
        have hsrt : Hid (∀ w', OwnI w' w.heap.size u7 ((s.dead i).filter fun b => goes s i b) → Calls Try.prog 31 #[u7] w' fun e w'' => e = .returned (.tuple #[]) ∧ OwnI w'' w.heap.size u7 ((List.range s.n).filter fun b => (s.dead i).contains b && goes s i b) ∧ w'.grownBy w'' u7.ownBlock) := fun w' ho' => by
          have hh := sort_any w.heap.size s.n u7 _ w' ho' (by
            have h1 := nodup_le (List.Pairwise.filter (fun b => goes s i b) hnd : ((s.dead i).filter fun b => goes s i b).Nodup) (n := s.n) fun x hx => hI x (List.mem_filter.1 hx).1
            omega) (List.Pairwise.filter _ hnd) fun x hx => hI x (List.mem_filter.1 hx).1
          have he : ((List.range s.n).filter fun b => ((s.dead i).filter fun b => goes s i b).contains b) = (List.range s.n).filter fun b => (s.dead i).contains b && goes s i b := by
            apply List.filter_congr
            intro b _
            rw [Bool.eq_iff_iff]
            simp [List.mem_filter]
          rw [he] at hh
          exact hh
        clear hD1 hD hI hnd
        go_wp2_with fail
        refine hdel.out.mono ?_
        rintro e w5 ⟨rfl, ho5, hg5⟩
        have kb5 := hDH.out.km.kbk.grown hg5 (own_ne_blk hDH.out.km.so hDH.out.km.kbk (by decide))
        have hcutm := Lib.hid (hDH.out.km.cut (L := cutAt s.lst i) him hg5 ho5)
        have k5 := kb5.cell 2
        have y5 := kb5.frozen 2
        simp at k5
        obtain ⟨W6, hW6⟩ : ∃ W6, W6 = w5.setCell ⟨kb, 2, none⟩ (.slice (some ⟨gs, 0, none⟩) (s.m - 1) d) := ⟨_, rfl⟩
        have go5 := own_keepO hDH.out.go hDH.out.km.so (by decide) hg5
        have go6 : Hid (OwnI W6 w.heap.size u7 ((s.dead i).filter fun b => goes s i b)) := by
          show OwnI _ _ _ _
          rw [hW6]
          exact own_keepS go5 kb5 (by decide) _
        have rb5 := hDH.out.rb.grown hg5 (own_ne_blk hDH.out.km.so hDH.out.rb (by decide))
        have rb6 : Hid (Blk W6 (w.heap.size + 1) 35 #[.int .i64 0, .slice none 0 0]) := by
          show Blk _ _ _ _
          rw [hW6]
          exact rb5.far (fun (e : w.heap.size + 1 = kb) => blk_ne' rb5 kb5 (by decide) e) _
        have al6 : Hid (Alt (KK kb s.m (.slice Bb s.n nb) (.slice (some ⟨gs, 0, none⟩) s.m d) dv) w W6) := by
          show Alt _ _ _
          rw [hW6]
          exact (hDH.out.al.grown hg5 fun r e => by cases e; exact .inl (.inr (.inr (.inl rfl)))).set (.inl (.inl rfl)) _
        rw [← hW6] at hcutm
        clear ho5 hg5 kb5 go5 rb5
        dsimp only
        go_wp2_with fail
        rw [← hW6]
        clear hW6
        refine (hsrt.out _ go6.out).mono ?_
        rintro e w7 ⟨rfl, go7, hg7⟩
        have rb7 := rb6.out.grown hg7 (own_ne_blk go6.out rb6.out (by decide))
        have hw7 := al6.out.size
        have hfin : Hid (∀ a u, MoveP base kb s { s with m := s.m - 1, num := cutAt s.num i, made := cutAt s.made i, lst := cutAt s.lst i, dead := cutAt (dAt s i (s.dead i)) i } 0 ((List.range s.n).filter fun b => (s.dead i).contains b && goes s i b) (.slice Bb s.n nb) (.slice (some ⟨gs, 0, none⟩) s.m d) dv w (.returned (.agg #[.int .i64 0, u7])) ((w7.setCell ⟨w.heap.size + 1, 0, none⟩ a).setCell ⟨w.heap.size + 1, 1, none⟩ u)) := fun a u => by
          refine ⟨_, _, _, _, rfl, (hcutm.out.grownR hg7 fun g hk => hDH.out.ap g (KK.cut him hk)).alt (alt_gone _ _ _ _) fun g hk e => ?_, (al6.out.grown hg7 fun r e => .inr (go7.lt r e).1).trans' (alt_gone _ _ _ _) fun i hi => .inr (by omega), (alt_gone _ _ _ _).own go7 fun g hg e => own_ne_blk go7 rb7 (by decide) (by rw [hg, e]), fun g hk => ⟨hDH.out.kk g (KK.cut him hk), hDH.out.ap g (KK.cut him hk)⟩⟩
          exact hDH.out.km.ne_gone hDH.out.rb g (KK.cut him hk) e
        have rb7H := Lib.hid rb7
        obtain ⟨Ua, uc, hu, _⟩ := own_open go7
        subst hu
        clear go7 hg7 rb7
        obtain ⟨r0, r1, y0, y1, hx⟩ := gone_cells rb7H.out
        dsimp only
        go_wp2
        exact bodyPost_ret (v := .agg #[.int .i64 0, .slice Ua _ uc]) (by simp [results, Try.results19, go_sem, (hx.out _ _).1, (hx.out _ _).2]) rfl (hfin.out _ _)
end Go.Proofs.Ytiffgeglbafenaa.snap
