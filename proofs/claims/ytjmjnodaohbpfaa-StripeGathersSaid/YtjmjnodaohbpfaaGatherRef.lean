/-
  Contract of the reference's StripeGather.
-/
import Derived.Test.YtjmjnodaohbpfaaGatherWith
import Derived.Test.YtjmjnodaohbpfaaGather
import Derived.Test.YtjmjnodaohbpfaaFletRef
import Derived.Test.YtjmjnodaohbpfaaGatherAll
import Derived.Test.YtjmjnodaohbpfaaGeomColRef
import Derived.Test.YtjmjnodaohbpfaaGeomColSame
namespace Go.Proofs.Ytjmjnodaohbpfaa.stripe
open Go.ChangeShapes Go.WideShapes Go.ChangeAt Go.RowKit Go.Proofs.Ytjmjnodaohbpfaa.kit Go.Proofs.Ytjmjnodaohbpfaa.geom Go.Proofs.Ytjmjnodaohbpfaa.par Go.Proofs.Ytjmjnodaohbpfaa.flet Go.Deep
set_option linter.unusedVariables false
set_option maxRecDepth 100000
/-- the two lists -/
structure RL (base : Nat) (lo ke : List Nat) (lv kv : Value) (w : World) : Prop where
  ol : w.ownsRow base 3 1 lv lo.length (lo.map comb.encN)
  ok : w.ownsRow base 3 1 kv ke.length (ke.map comb.encN)
  ne : lv.ownBlock = none ∨ lv.ownBlock ≠ kv.ownBlock
section
variable {base : Nat} {lo ke : List Nat} {lv kv : Value} {w w' w2 : World}
theorem RL.new (h : RL base lo ke lv kv w) (hn : New w w') : RL base lo ke lv kv w' := ⟨own_new h.ol hn, own_new h.ok hn, h.ne⟩
theorem RL.lost (h : RL base lo ke lv kv w) {o : Obj} {g cap x : Nat}
    (hown : w2.ownsRow base 3 1 (.slice (some ⟨g, 0, none⟩) (lo.length + 1) cap) (lo.length + 1) (lo.map comb.encN ++ [.int .i64 (x : Nat)])) (hgr : (w.alloc o).grownBy w2 lv.ownBlock) (hat : lv.ownBlock = some g ∨ w.heap.size ≤ g) :
    RL base (lo ++ [x]) ke (.slice (some ⟨g, 0, none⟩) (lo.length + 1) cap) kv w2 := by
  have hk : ∀ g', kv.ownBlock = some g' → base ≤ g' ∧ g' < w.heap.size := fun g' e => h.ok.lt _ e
  have hkl : kv.ownBlock = none ∨ kv.ownBlock ≠ lv.ownBlock := by
    rcases h.ne with h1 | h1
    · by_cases hn : kv.ownBlock = none
      · exact .inl hn
      · exact .inr (by rw [h1]; exact hn)
    · exact .inr (Ne.symm h1)
  refine ⟨by rw [List.length_append, List.map_append]; exact hown, (h.ok.alloc o).kept hgr hkl, .inr fun e => ?_⟩
  have h1 := hk g e.symm
  rcases hat with h2 | h2
  · rcases h.ne with h3 | h3
    · rw [h3] at h2; cases h2
    · exact h3 (h2.trans e)
  · omega
theorem RL.kept (h : RL base lo ke lv kv w) {o : Obj} {g cap x : Nat}
    (hown : w2.ownsRow base 3 1 (.slice (some ⟨g, 0, none⟩) (ke.length + 1) cap) (ke.length + 1) (ke.map comb.encN ++ [.int .i64 (x : Nat)])) (hgr : (w.alloc o).grownBy w2 kv.ownBlock) (hat : kv.ownBlock = some g ∨ w.heap.size ≤ g) :
    RL base lo (ke ++ [x]) lv (.slice (some ⟨g, 0, none⟩) (ke.length + 1) cap) w2 := by
  have hk : ∀ g', lv.ownBlock = some g' → base ≤ g' ∧ g' < w.heap.size := fun g' e => h.ol.lt _ e
  refine ⟨(h.ol.alloc o).kept hgr h.ne, by rw [List.length_append, List.map_append]; exact hown, .inr fun e => ?_⟩
  have h1 := hk g e
  rcases hat with h2 | h2
  · rcases h.ne with h3 | h3
    · rw [e] at h3; cases h3
    · exact h3 (e.trans h2.symm)
  · omega
end
theorem own_nums {w : World} {base : Nat} {v : Value} {l : List Nat} (h : w.ownsRow base 3 1 v l.length (l.map comb.encN)) :
    ∃ A c, v = .slice A l.length c ∧ l.length ≤ c ∧ c ≤ maxLen ∧ RdI .i64 w A l.length (atZ l) ∧ ((A = none ∧ l.length = 0 ∧ c = 0) ∨ ∃ b off, A = some ⟨b, off, none⟩ ∧ b < w.heap.size ∧ ∀ i, i < l.length → w.cell? ⟨b, off + i, none⟩ = some (.int .i64 (l.getD i 0 : Nat))) := by
  have h2 := h.2
  obtain ⟨A, c, rfl, h3, h4, h5, h6⟩ := own_open h
  have hc : ∀ g, A = some ⟨g, 0, none⟩ → ∀ i, i < l.length → w.cell? ⟨g, 0 + i, none⟩ = some (.int .i64 (l.getD i 0 : Nat)) := fun g hg i hi => by
    have := h6 g hg i (.int .i64 (l.getD i 0 : Nat)) (by simp [hi, comb.encN])
    simpa using this
  refine ⟨A, c, rfl, h3, h4, ⟨Nat.le_trans h3 h4, fun h0 => ?_⟩, ?_⟩
  · obtain ⟨g, rfl, _, hg⟩ := h5 h0
    exact ⟨g, 0, rfl, hg, hc g rfl⟩
  · rcases h2 with ⟨he, h0⟩ | ⟨g, cap, cur, he, _, hg, _⟩
    · simp only [Value.slice.injEq] at he
      exact .inl ⟨he.1, h0, he.2.2⟩
    · simp only [Value.slice.injEq] at he
      obtain ⟨rfl, _, rfl⟩ := he
      exact .inr ⟨g, 0, rfl, (Array.getElem?_eq_some_iff.1 hg).1, hc g rfl⟩
theorem wpList_append_run {P : Program} {ops : Array Oper} {rest : List Oper} {o : Oper} {a : Act} {Q : Exit → Act → World → Prop} {w w' : World} {v : Value} (hgd : o.guard = none) (s x : Operand) (t : TypeId)
    (ho : o.op = .call { callee := .builtin .append, args := #[s, x], argTypes := #[t, t] }) (sv xv : Value) (hs : a.eval s = sv) (hx : a.eval x = xv) (hr : (Builtin.append_ #[t, t] o.type #[sv, xv]).run P w = .ok v w')
    (h : wpList P ops Q rest (a.put o.dst v) w') : wpList P ops Q (o :: rest) a w :=
  wpList_plain hgd fun _ hK => wp_append_run s x t ho sv xv hs hx hr (hK _ _ h)
theorem RefGather_len (d p a n s0 s1 s2 s3 : Int) (PA : Option Addr) (m c : Nat) (w : World) (h : n < 1 ∨ 4096 < n) :
    Calls Try.prog 19 #[.int .i64 d, .int .i64 p, .int .i64 a, .int .i64 n, .slice PA m c, four s0 s1 s2 s3] w (GaP 0 [] [] 1 w) := by
  by_cases h1 : n < 1
  · clear h
    go_enter Try.func19, Try.ntmps19
    go_wp2
    exact bodyPost_ret (v := .tuple #[.slice none 0 0, .slice none 0 0, .int .i64 1]) (by simp [results, Try.results19, go_sem]) rfl (GaP.no rfl ((New.refl w).alloc _))
  · have h3 : (4096 : Int) < n := by omega
    clear h
    go_enter Try.func19, Try.ntmps19
    go_wp2
    exact bodyPost_ret (v := .tuple #[.slice none 0 0, .slice none 0 0, .int .i64 1]) (by simp [results, Try.results19, go_sem]) rfl (GaP.no rfl ((New.refl w).alloc _))
theorem RefGather_geom (d p a s0 s1 s2 s3 : Int) (n : Nat) (PA : Option Addr) (m c : Nat) (w : World) (h : 1 ≤ n ∧ n ≤ 4096) (hg : ¬ (mayP d p ∧ cntP ((n + 127) / 128 : Nat) ∧ adrP a)) :
    Calls Try.prog 19 #[.int .i64 d, .int .i64 p, .int .i64 a, .int .i64 n, .slice PA m c, four s0 s1 s2 s3] w (GaP 0 [] [] 2 w) := by
  have hc := Lib.hid (fun w => GeomColumns_bad d p a (((n + 127) / 128 : Nat) : Int) w hg)
  obtain ⟨q, hq⟩ : ∃ q, Hid (q = (n + 127) / 128) := ⟨_, rfl⟩
  rw [← hq.out] at hc
  have h1 : ¬ (n : Int) < 1 := by omega
  have h2 : ¬ (4096 : Int) < (n : Int) := by omega
  have h3 : n ≤ 4096 := h.2
  have h4 : ((n : Int) + 127) / 128 = (q : Int) := by rw [hq.out]; omega
  have h5 : q ≤ 33 := by rw [hq.out]; omega
  clear h hg
  go_enter Try.func19, Try.ntmps19
  go_wp2_with fail
  refine (hc.out _).mono ?_
  rintro e w1 ⟨rfl, hn1⟩
  have hN := New.of_alloc hn1
  go_wp2
  exact bodyPost_ret (v := .tuple #[.slice none 0 0, .slice none 0 0, .int .i64 2]) (by simp [results, Try.results19, go_sem]) rfl (GaP.no rfl hN)
theorem RefGather_form (dr pa ad wd ct n num m c : Nat) (s0 s1 s2 s3 : Int) (PA : Option Addr) (w : World)
    (h1 : 2 ≤ dr) (h2 : dr ≤ 8) (h3 : 1 ≤ pa) (h4 : pa ≤ 3) (h5 : dr = pa + wd) (h6 : 1 ≤ wd) (h7 : ad ≤ 65536) (h : 1 ≤ n ∧ n ≤ 4096) (hct : ct = (n + 127) / 128) (hnum : num = numP dr pa ct wd) (hm : m ≠ num) :
    Calls Try.prog 19 #[.int .i64 dr, .int .i64 pa, .int .i64 ad, .int .i64 n, .slice PA m c, four s0 s1 s2 s3] w (GaP 0 [] [] 4 w) := by
  have hc := Lib.hid (fun w => GeomColumns_ok dr pa ad ct wd h1 h2 h3 h4 h5 h6 h7 (by omega) (by omega) w)
  rw [← hnum] at hc
  have g1 : ¬ (n : Int) < 1 := by omega
  have g2 : ¬ (4096 : Int) < (n : Int) := by omega
  have g3 : n ≤ 4096 := h.2
  have g4 : ((n : Int) + 127) / 128 = (ct : Int) := by omega
  have g5 : ct ≤ 33 := by omega
  have hmn : ((m : Int) != (num : Int)) = true := by simp; omega
  clear h hct h5 hm hnum
  go_enter Try.func19, Try.ntmps19
  go_wp2_with fail
  refine (hc.out _).mono ?_
  rintro e w1 ⟨v, rfl, hown, hn1⟩
  obtain ⟨A, cl, rfl, _, _, _, _⟩ := own_open hown
  have hN := Lib.hid (New.of_alloc hn1)
  clear hown hn1
  go_wp2
  exact bodyPost_ret (v := .tuple #[.slice none 0 0, .slice none 0 0, .int .i64 4]) (by simp [results, Try.results19, go_sem]) rfl (GaP.no rfl hN.out)
set_option maxHeartbeats 4000000 in
theorem RefGather_ok (dr pa ad wd ct n num m c : Nat) (s0 s1 s2 s3 : Int) (PA : Option Addr) (Ls : Nat → Bool) (R : Nat → Option Addr) (L C : Nat → Nat) (D : Nat → Nat → Nat) (w : World)
    (h1 : 2 ≤ dr) (h2 : dr ≤ 8) (h3 : 1 ≤ pa) (h4 : pa ≤ 3) (h5 : dr = pa + wd) (h6 : 1 ≤ wd) (h7 : ad ≤ 65536) (h : 1 ≤ n ∧ n ≤ 4096) (hct : ct = (n + 127) / 128) (hnum : num = numP dr pa ct wd) (hP : RdP w PA num Ls R L C D) :
    Calls Try.prog 19 #[.int .i64 dr, .int .i64 pa, .int .i64 ad, .int .i64 n, .slice PA num c, four s0 s1 s2 s3] w (GaS num pa ct wd n Ls L D (s0, s1, s2, s3) w) := by
  have hc := Lib.hid (fun w => GeomColumns_ok dr pa ad ct wd h1 h2 h3 h4 h5 h6 h7 (by omega) (by omega) w)
  rw [← hnum] at hc
  obtain ⟨i1, hj0, hy0, hy1, hy2⟩ := info_parts infoIn
  have hc1 : 1 ≤ ct := by omega
  have hc2 : ct ≤ 32 := by omega
  have hn := numP_eq (pa := pa) h6 hc1
  rw [← h5, ← hnum] at hn
  have hdc := dc_pos h6 hc1
  have hdl := dc_le h6 hc1
  have hn8 : num ≤ 8 := by omega
  have hn0 : 0 < num := by omega
  have hc0 := cnt_max (pa := pa) h6 hc1 hc2 h3
  have g1 : ¬ (n : Int) < 1 := by omega
  have g2 : ¬ (4096 : Int) < (n : Int) := by omega
  have g3 : n ≤ 4096 := h.2
  have g4 : ((n : Int) + 127) / 128 = (ct : Int) := by omega
  have hnct : n ≤ 128 * ct := by omega
  obtain ⟨pb, po, rfl, hpb, hpc⟩ := hP.2.1 hn0
  replace hpc := Lib.hid hpc
  have hPH := Lib.hid hP
  have hnH := Lib.hid hn
  obtain ⟨Lg, hLg⟩ : ∃ Lg, Hid (Lg = 128 * cntC pa ct wd 0) := ⟨_, rfl⟩
  clear h hct h5 hnum hn hP
  go_enter Try.func19, Try.ntmps19
  go_wp2_with fail
  refine (hc.out _).mono ?_
  rintro e w2 ⟨v, rfl, hown, hn1⟩
  obtain ⟨A, cl, rfl, _, _, hA, hcell⟩ := own_open hown
  obtain ⟨gk, rfl, _, hgk⟩ := hA hn0
  have hcl : Hid (∀ c, c < num → w2.cell? ⟨gk, c * 4 + 2, none⟩ = some (.int .i64 (cntC pa ct wd c : Nat))) := fun c hc => hcell gk rfl (c * 4 + 2) _ (by rw [colL_at dr pa ad _ num c 2 hc (by omega)]; rfl)
  have hcol := Lib.hid hown
  have hsum : Hid (Blk w2 w.heap.size 38 #[.int .i64 s0, .int .i64 s1, .int .i64 s2, .int .i64 s3]) := (Blk.fresh w _ _).new hn1
  have hN2 := Lib.hid (New.of_alloc hn1)
  have hP2 := Lib.hid (hPH.out.new hN2.out)
  have hpc2 : Hid (∀ i, i < num → w2.cell? ⟨pb, po + i * 2, none⟩ = some (.bool (Ls i)) ∧ w2.cell? ⟨pb, po + i * 2 + 1, none⟩ = some (.slice (R i) (L i) (C i))) := fun i hi => ⟨(hN2.out.cell hpb).trans (hpc.out i hi).1, (hN2.out.cell hpb).trans (hpc.out i hi).2⟩
  have hpb2 : pb < w2.heap.size := Nat.lt_of_lt_of_le hpb hN2.out.size
  clear hn1 hA hcell hown hc
  go_wp2_with fail
  go_loopw [57, 17, 18] (fun x lv kv wr => ∃ i : Nat, x = .int .i64 i ∧ i ≤ num ∧ Hid (RL w2.heap.size (lostL Ls i) (keptL Ls i) lv kv wr) ∧ Hid (New w2 wr)) (fun x _ _ _ => num - (intOf x).toNat)
  case atStart => exact ⟨0, rfl, by omega, ⟨World.ownsRow_nil _ _ _ _, World.ownsRow_nil _ _ _ _, .inl rfl⟩, New.refl _⟩
  case round =>
    obtain ⟨i, rfl, hi, hR, hnw⟩ := hrel
    by_cases hlt : i < num
    · have e0 : wr.cell? ⟨pb, po + i * 2, none⟩ = some (.bool (Ls i)) := (hnw.out.cell hpb2).trans (hpc2.out i hlt).1
      have hbs : w2.heap.size ≤ wr.heap.size := hnw.out.size
      have hlk := lk_len (Ls := Ls) i
      cases hl : Ls i with
      | true =>
        rw [hl] at e0
        obtain ⟨y1, y2⟩ := lost_yes hl
        have hown1 := hR.out.ol
        obtain ⟨lo, hlo⟩ : ∃ lo, Hid (lo = lostL Ls i) := ⟨_, rfl⟩
        rw [← hlo.out] at hown1 hR y1 hlk
        have y12 := Lib.hid (And.intro y1 y2)
        clear y1 y2
        go_wp2_with (at_builtin; refine wpList_append_lies _ rfl _ _ 29 rfl w2.heap.size 3 i1 _ 1 8 Try.underlying29 hj0 hy0 hy1 hy2 rfl (by decide) u17 lo.length (lo.map comb.encN) rfl (hown1.alloc _) ⟨wr.heap.size, 0, none⟩ 1 1 [.int .i64 i] rfl rfl (World.news_of_block (cs := #[.int .i64 _]) (t := 3) (fr := (0, 0)) (heap_alloc_new wr _)) (by simp [Value.oneCell']) (by omega) (by unfold maxLen; omega) (by omega) (by simp; omega) _ rfl ?_; intro g cap w6 hown6 hgr6 hat6 hlt6; have hfin := Lib.hid (hR.out.lost hown6 hgr6 (hat6.imp id fun h => by rw [h]; simp)); have hN6 : Hid (New w2 w6) := (hnw.out.alloc _).grown hgr6 (fun r e => (hown1.lt r e).1); clear hown6 hgr6 hat6)
        go_roundw
        case rel => exact ⟨i + 1, by go_num, by omega, by rw [y12.out.1, y12.out.2]; exact hfin, hN6⟩
        case measure => simp [intOf]; omega
      | false =>
        rw [hl] at e0
        obtain ⟨y1, y2⟩ := lost_no hl
        have hown1 := hR.out.ok
        obtain ⟨ke, hke⟩ : ∃ ke, Hid (ke = keptL Ls i) := ⟨_, rfl⟩
        rw [← hke.out] at hown1 hR y2 hlk
        have y12 := Lib.hid (And.intro y1 y2)
        clear y1 y2
        go_wp2_with (at_builtin; refine wpList_append_lies _ rfl _ _ 29 rfl w2.heap.size 3 i1 _ 1 8 Try.underlying29 hj0 hy0 hy1 hy2 rfl (by decide) u18 ke.length (ke.map comb.encN) rfl (hown1.alloc _) ⟨wr.heap.size, 0, none⟩ 1 1 [.int .i64 i] rfl rfl (World.news_of_block (cs := #[.int .i64 _]) (t := 3) (fr := (0, 0)) (heap_alloc_new wr _)) (by simp [Value.oneCell']) (by omega) (by unfold maxLen; omega) (by omega) (by simp; omega) _ rfl ?_; intro g cap w6 hown6 hgr6 hat6 hlt6; have hfin := Lib.hid (hR.out.kept hown6 hgr6 (hat6.imp id fun h => by rw [h]; simp)); have hN6 : Hid (New w2 w6) := (hnw.out.alloc _).grown hgr6 (fun r e => (hown1.lt r e).1); clear hown6 hgr6 hat6)
        go_roundw
        case rel => exact ⟨i + 1, by go_num, by omega, by rw [y12.out.1, y12.out.2]; exact hfin, hN6⟩
        case measure => simp [intOf]; omega
    · have hin : num = i := by omega
      subst hin
      obtain ⟨lo, hlo⟩ : ∃ lo, Hid (lo = lostL Ls num) := ⟨_, rfl⟩
      obtain ⟨ke, hke⟩ : ∃ ke, Hid (ke = keptL Ls num) := ⟨_, rfl⟩
      have hlk := lk_len (Ls := Ls) num
      rw [← hlo.out, ← hke.out] at hR hlk
      obtain ⟨LA2, lc, rfl, hlc1, hlc2, hlR, hlF⟩ := own_nums hR.out.ol
      obtain ⟨KA2, kc, rfl, hkc1, hkc2, hkR, hkF⟩ := own_nums hR.out.ok
      have hkm : Hid (∀ j, j < ke.length → ke.getD j 0 < num ∧ Ls (ke.getD j 0) = false) := fun j hj => by
        have : ke.getD j 0 ∈ keptL Ls num := by rw [← hke.out, show ke.getD j 0 = ke[j] by simp [List.getD, hj]]; exact List.getElem_mem hj
        exact kept_mem.1 this
      have hlR := Lib.hid hlR
      have hkR := Lib.hid hkR
      have hlF := Lib.hid hlF
      obtain ⟨W3, hW3⟩ : ∃ W3, W3 = wr := ⟨_, rfl⟩
      subst hW3
      have hN3 := Lib.hid (hN2.out.next hnw.out)
      go_wp2_with fail
      go_loopw [76] (fun x wr => ∃ i : Nat, x = .int .i64 i ∧ i ≤ ke.length ∧ Hid (∀ j, j < i → L (ke.getD j 0) = 128 * cntC pa ct wd (ke.getD j 0)) ∧ Hid (New W3 wr)) (fun x _ => ke.length - (intOf x).toNat)
      case atStart => exact ⟨0, rfl, by omega, fun j hj => absurd hj (Nat.not_lt_zero j), New.refl _⟩
      case round =>
        obtain ⟨i, rfl, hi, hall, hnw3⟩ := hrel
        by_cases hik : i < ke.length
        · obtain ⟨kb, ko, rfl, hkb, hkcs⟩ := hkR.out.2 (by omega)
          obtain ⟨ci, hci⟩ : ∃ ci, Hid (ci = ke.getD i 0) := ⟨_, rfl⟩
          obtain ⟨hcn, hcL⟩ := hkm.out i hik
          rw [← hci.out] at hcn hcL
          have hNa := hnw.out.next hnw3.out
          have c0 : wr.cell? ⟨kb, ko + i, none⟩ = some (.int .i64 (ci : Nat)) := by rw [hci.out]; exact (hnw3.out.cell hkb).trans (hkcs i hik)
          have c1 : wr.cell? ⟨pb, po + ci * 2 + 1, none⟩ = some (.slice (R ci) (L ci) (C ci)) := (hNa.cell hpb2).trans (hpc2.out ci hcn).2
          obtain ⟨q, hq⟩ : ∃ q, Hid (q = cntC pa ct wd ci) := ⟨_, rfl⟩
          have hq32 : q ≤ 32 := by rw [hq.out]; have := cnt_le (pa := pa) (ct := ct) h6 hc1 h3 ci; omega
          have c2 : wr.cell? ⟨gk, ci * 4 + 2, none⟩ = some (.int .i64 (q : Nat)) := by rw [hq.out]; exact (hNa.cell (p := ⟨gk, ci * 4 + 2, none⟩) hgk).trans (hcl.out ci hcn)
          have k1 := NewW.keep c1
          have k2 := NewW.keep c2
          have a0 : (0 : Int) ≤ (i : Int) := by omega
          have a1 : (i : Int) < (ke.length : Int) := by omega
          have a2 : (0 : Int) ≤ (ci : Int) := by omega
          have a3 : (ci : Int) < (num : Int) := by omega
          obtain ⟨sz, hsz⟩ : ∃ sz, Hid (sz = 128 * q) := ⟨_, rfl⟩
          have hmul : (128 : Int) * (q : Int) = (sz : Int) := by have := hsz.out; omega
          by_cases hb : L ci = sz
          · have hne : ((L ci : Int) != (sz : Int)) = false := by rw [hb]; simp
            have hall2 : Hid (∀ j, j < i + 1 → L (ke.getD j 0) = 128 * cntC pa ct wd (ke.getD j 0)) := fun j hj => by
              by_cases e : j = i
              · rw [e, ← hci.out, hb, hsz.out, hq.out]
              · exact hall.out j (by omega)
            clear hkcs hNa
            go_wp2_with fail
            (refine wp_region_quiet_new (by kernel_rfl) (by kernel_rfl) ?_; (repeat (first | go_big_quiet_step (fail) | quiet_step (fail))); refine wpQuiet_nil ?_; rintro W5 ⟨⟨_, hn_W5⟩, rfl⟩)
            go_wp2_with fail
            go_roundw
            case rel => exact ⟨i + 1, by go_num, by omega, hall2, hnw3.out.next hn_W5⟩
            case measure => simp [intOf]; omega
          · have hne : ((L ci : Int) != (sz : Int)) = true := by simp; omega
            have hbadA : Hid (badL Ls L (fun c => 128 * cntC pa ct wd c) num = true) := badL_at hcn hcL (by rw [← hq.out, ← hsz.out]; exact hb)
            clear hkcs hNa
            go_wp2_with fail
            (refine wp_region_quiet_new (by kernel_rfl) (by kernel_rfl) ?_; (repeat (first | go_big_quiet_step (fail) | quiet_step (fail))); refine wpQuiet_nil ?_; rintro W5 ⟨⟨_, hn_W5⟩, rfl⟩)
            have hNf := Lib.hid ((hN3.out.next hnw3.out).next hn_W5)
            go_wp2_with fail
            exact bodyPost_ret (v := .tuple #[.slice none 0 0, .slice none 0 0, .int .i64 4]) (by simp [results, Try.results19, go_sem]) rfl (by unfold GaS; rw [if_pos hbadA.out]; exact GaP.no rfl hNf.out)
        · have hik2 : i = ke.length := by omega
          subst hik2
          have hbad : Hid (badL Ls L (fun c => 128 * cntC pa ct wd c) num = false) := badL_of fun c hc hl => by
            have hm : c ∈ ke := by rw [hke.out]; exact kept_mem.2 ⟨hc, hl⟩
            obtain ⟨j, hj, he⟩ := List.getElem_of_mem hm
            have := hall.out j hj
            rw [show ke.getD j 0 = c by rw [← he]; simp [List.getD, hj]] at this
            exact this
          obtain ⟨W4, hW4⟩ : ∃ W4, W4 = wr := ⟨_, rfl⟩
          subst hW4
          have hN4 := Lib.hid (hN3.out.next hnw3.out)
          by_cases hgt : pa < lo.length
          · have hgi : (pa : Int) < (lo.length : Int) := by omega
            go_wp2_with fail
            exact bodyPost_ret (v := .tuple #[.slice none 0 0, .slice none 0 0, .int .i64 12]) (by simp [results, Try.results19, go_sem]) rfl (by unfold GaS; rw [hbad.out, if_neg (by simp), ← hlo.out, if_pos hgt]; exact GaP.no rfl hN4.out)
          · have hgi : ¬ (pa : Int) < (lo.length : Int) := by omega
            go_wp2_with fail
            go_loopw [22] (fun x wr => ∃ k : Nat, x = .int .i64 k ∧ k ≤ pa - lo.length + 1 ∧ Hid ((allC ke k).find? (okS num pa ct wd L D lo (s0, s1, s2, s3)) = none) ∧ Hid (New W4 wr)) (fun x _ => pa + 1 - (intOf x).toNat)
            case atStart => exact ⟨0, rfl, by omega, rfl, New.refl _⟩
            case round =>
              obtain ⟨k, rfl, hk1, hnone, hnw4⟩ := hrel
              by_cases hk : k ≤ pa - lo.length
              · have hki : (lo.length : Int) + (k : Int) ≤ (pa : Int) := by omega
                have hpk := Lib.hid (fun w => comb.picks_ok ke.length 0 k ke.length (by omega) (by omega) (by omega) w)
                go_wp2_with fail
                refine (hpk.out _).mono ?_
                rintro e w5 ⟨v5, vals5, rfl, ho5, ha5, hn5⟩
                obtain ⟨S, hS⟩ : ∃ S, Hid (S = comb.pickL ke.length 0 k) := ⟨_, rfl⟩
                rw [← hS.out] at ho5 ha5
                obtain ⟨SA, sc, SR, SC, rfl, hM⟩ := coll_rd2 ho5 ha5
                have hMH := Lib.hid hM
                have hN5 := Lib.hid ((hN4.out.next hnw4.out).next hn5)
                have hSl : Hid (∀ i, i < S.length → S.getD i [] ∈ S) := fun i hi => by rw [show S.getD i [] = S[i] by simp [List.getD, hi]]; exact List.getElem_mem hi
                have hSm : S.length ≤ maxLen := hM.1
                clear ho5 ha5 hM
                unfold maxLen at hSm
                go_wp2_with fail
                go_loopw [111] (fun x wr => ∃ i : Nat, x = .int .i64 i ∧ i ≤ S.length ∧ Hid (∀ j, j < i → okS num pa ct wd L D lo (s0, s1, s2, s3) (asP ke (S.getD j [])) = false) ∧ Hid (New w5 wr)) (fun x _ => S.length - (intOf x).toNat)
                case atStart => exact ⟨0, rfl, by omega, fun j hj => absurd hj (Nat.not_lt_zero j), New.refl _⟩
                case round =>
                  obtain ⟨i, rfl, hi, hall3, hnw5⟩ := hrel
                  by_cases hiS : i < S.length
                  · obtain ⟨x, hx⟩ : ∃ x, Hid (x = S.getD i []) := ⟨_, rfl⟩
                    have hxm : x ∈ comb.pickL ke.length 0 k := by rw [hx.out, ← hS.out]; exact hSl.out i hiS
                    have hxl := comb.pickL_len _ _ _ x hxm
                    obtain ⟨hx1, _⟩ := pickL_in _ _ _ x hxm
                    obtain ⟨b3, o3, rfl, hb3, hcs3⟩ := hMH.out.2.1 (by omega)
                    have c0 := (hnw5.out.cell hb3).trans (hcs3 i hiS)
                    have hrow := (hMH.out.2.2 i hiS).1
                    simp only [← hx.out, hxl] at c0 hrow
                    have hgood : Hid ((∀ c ∈ lo ++ asP ke x, c < num) ∧ (lo ++ asP ke x).Nodup ∧ (lo ++ asP ke x).length = lo.length + k) := by
                      rw [hke.out] at hxm ⊢
                      rw [hlo.out]
                      exact asP_good hxm
                    have hk8 : k ≤ 8 := by omega
                    have hroH := Lib.hid (hrow.new hnw5.out)
                    obtain ⟨W6, hW6⟩ : ∃ W6, W6 = wr := ⟨_, rfl⟩
                    subst hW6
                    have hNk : Hid (New W3 W6) := hnw3.out.next (hnw4.out.next (hn5.next hnw5.out))
                    have hx1H := Lib.hid hx1
                    have hiSi : (i : Int) < (S.length : Int) := by omega
                    clear hcs3 hrow hxm hx1
                    go_wp2_with fail
                    go_loopw [117, 25] (fun y bv wr => ∃ j : Nat, y = .int .i64 j ∧ j ≤ k ∧ Hid (wr.ownsRow W6.heap.size 3 1 bv j ((asP ke (x.take j)).map comb.encN)) ∧ Hid (New W6 wr)) (fun y _ _ => k - (intOf y).toNat)
                    case atStart => exact ⟨0, rfl, by omega, World.ownsRow_nil _ _ _ _, New.refl _⟩
                    case round =>
                      obtain ⟨j, rfl, hj, hown6, hnw6⟩ := hrel
                      by_cases hjk : j < k
                      · obtain ⟨xb, xo, rX, hxb, hxcs⟩ := hroH.out.2 (by omega)
                        obtain ⟨xj, hxj⟩ : ∃ xj, Hid (xj = x.getD j 0) := ⟨_, rfl⟩
                        have hxk : xj < ke.length := by
                          rw [hxj.out]
                          have := (hx1H.out (x.getD j 0) (by simp [List.getD, show j < x.length by omega])).2
                          omega
                        obtain ⟨kb, ko, rfl, hkb, hkcs⟩ := hkR.out.2 (by omega)
                        obtain ⟨yj, hyj⟩ : ∃ yj, Hid (yj = ke.getD xj 0) := ⟨_, rfl⟩
                        rw [rX]
                        have c1 : wr.cell? ⟨xb, xo + j, none⟩ = some (.int .i64 (xj : Nat)) := by rw [hxj.out]; exact (hnw6.out.cell hxb).trans (hxcs j hjk)
                        have c2 : wr.cell? ⟨kb, ko + xj, none⟩ = some (.int .i64 (yj : Nat)) := by rw [hyj.out]; exact ((hNk.out.next hnw6.out).cell hkb).trans (hkcs xj hxk)
                        have hnx : Hid ((asP ke (x.take (j + 1))).map comb.encN = (asP ke (x.take j)).map comb.encN ++ [.int .i64 (yj : Nat)]) := by
                          show _ = _
                          have hjl : j < x.length := by omega
                          rw [List.take_succ_eq_append_getElem hjl]
                          unfold asP
                          rw [List.map_append, List.map_append, hyj.out, hxj.out]
                          simp [List.getD, hjl, comb.encN]
                        have hbs6 : W6.heap.size ≤ wr.heap.size := hnw6.out.size
                        have a1 : (j : Int) < (k : Int) := by omega
                        have a3 : (xj : Int) < (ke.length : Int) := by omega
                        clear hxcs hkcs
                        go_wp2_with (at_builtin; refine wpList_append_lies _ rfl _ _ 29 rfl W6.heap.size 3 i1 _ 1 8 Try.underlying29 hj0 hy0 hy1 hy2 rfl (by decide) u25 j ((asP ke (x.take j)).map comb.encN) rfl (hown6.out.alloc _) ⟨wr.heap.size, 0, none⟩ 1 1 [.int .i64 yj] rfl rfl (World.news_of_block (cs := #[.int .i64 _]) (t := 3) (fr := (0, 0)) (heap_alloc_new wr _)) (by simp [Value.oneCell']) (by omega) (by unfold maxLen; omega) (by omega) (by simp; omega) _ rfl ?_; intro g cap w7 hown7 hgr7 hat7 hlt7; rw [← hnx.out] at hown7; have hfin := Lib.hid hown7; have hN7 : Hid (New W6 w7) := (hnw6.out.alloc _).grown hgr7 (fun r e => (hown6.out.lt r e).1); clear hown7 hgr7 hat7)
                        go_roundw
                        case rel => exact ⟨j + 1, by go_num, by omega, hfin, hN7⟩
                        case measure => simp [intOf]; omega
                      · have hjk2 : k = j := by omega
                        subst hjk2
                        obtain ⟨bs, hbs⟩ : ∃ bs, Hid (bs = asP ke x) := ⟨_, rfl⟩
                        have hbl : bs.length = k := by rw [hbs.out]; simp [asP, hxl]
                        have hown6' := hown6.out
                        rw [List.take_of_length_le (by omega), ← hbs.out, ← hbl] at hown6'
                        rw [← hbs.out] at hgood
                        obtain ⟨BA, bc, rfl, hb1, hb2, hbR, hbF⟩ := own_nums hown6'
                        obtain ⟨XL, hXL⟩ : ∃ XL, Hid (XL = dtL num pa ct wd L D (lo ++ bs)) := ⟨_, rfl⟩
                        have hlo8 : lo.length ≤ 8 := by omega
                        obtain ⟨W7, hW7⟩ : ∃ W7, W7 = wr := ⟨_, rfl⟩
                        subst hW7
                        have hN7 := Lib.hid (hNk.out.next hnw6.out)
                        obtain ⟨v8, w8, hr8, hown8, hg8⟩ := append_nums (w := W7.alloc (.cells #[] 3)) W7.heap.size (.slice (some ⟨W7.heap.size, 0, none⟩) 0 0) 0 [] (World.ownsRow_lit (e := 3) (size := 1) W7 #[] 0 (Nat.le_refl _) (by unfold maxLen; omega) rfl) LA2 lo.length lc lo rfl (by
                          rcases hlF.out with h | ⟨b, off, e1, e2, e3⟩
                          · exact .inl h
                          · exact .inr ⟨b, off, e1, fun i hi => ((hN7.out.alloc _).cell (p := ⟨b, off + i, none⟩) e2).trans (e3 i hi)⟩) (by omega) (by simp)
                        have hN8 : New W7 w8 := ((New.refl W7).alloc _).grown1 hg8 (Nat.le_refl _)
                        obtain ⟨v9, w9, hr9, hown9, hg9⟩ := append_nums (w := w8) W7.heap.size v8 lo.length (lo.map comb.encN) (by simpa using hown8) BA bs.length bc bs rfl (by
                          rcases hbF with h | ⟨b, off, e1, e2, e3⟩
                          · exact .inl h
                          · exact .inr ⟨b, off, e1, fun i hi => (hN8.cell (p := ⟨b, off + i, none⟩) e2).trans (e3 i hi)⟩) (by omega) (by have := hN8.size; omega)
                        have hN9 : New W7 w9 := hN8.grown hg9 (fun r e => by
                          have := ((show w8.ownsRow W7.heap.size 3 1 v8 lo.length (lo.map comb.encN) by simpa using hown8).lt r e).1
                          exact this)
                        have hgw : Hid (Calls Try.prog 43 #[.slice (some ⟨gk, 0, none⟩) num cl, .int .i64 pa, .slice (some ⟨pb, po, none⟩) num c, v9] w9 (dtP ct XL w9)) := by
                          have hlen := hgood.out.2.2
                          rw [← List.map_append] at hown9
                          have ho : w9.ownsRow W7.heap.size 3 1 v9 (lo ++ bs).length ((lo ++ bs).map comb.encN) := by rw [List.length_append]; exact hown9
                          obtain ⟨GA, gc, rfl, _, _, hR, _⟩ := own_nums ho
                          rw [hXL.out]
                          have hN29 := (hnw.out.next hN7.out).next hN9
                          exact gatherWith_any (some ⟨gk, 0, none⟩) (some ⟨pb, po, none⟩) GA num cl dr pa ad ct wd Lg c gc _ Ls R L C D (lo ++ bs) w9 h3 h4 hnH.out h6 hc1 hc2 hn8 hdc hLg.out (own_new hcol.out hN29) (hP2.out.new hN29) hR (by rw [hlen]; omega)
                        have hbRH := Lib.hid (hbR.new hN9)
                        have hN9H := Lib.hid hN9
                        have hlit0 : (0 : Nat) = 0 := rfl
                        clear hown6 hown6' hown8 hown9 hbF hbR hg8 hg9
                        rw [hbl] at *
                        go_wp2_with (first
                          | (at_builtin; refine wpList_append_run rfl (.tmp 132) (.tmp 133) 29 rfl (.slice (some ⟨W7.heap.size, 0, none⟩) 0 0) (.slice LA2 lo.length lc) rfl rfl hr8 ?_; clear hr8)
                          | (at_builtin; refine wpList_append_run rfl (.tmp 134) (.tmp 135) 29 rfl v8 (.slice BA k bc) rfl rfl hr9 ?_; clear hr9)
                          | (go_at_call 43; refine hgw.out.mono ?_; rintro e w10 ⟨⟨A3, c3, rfl, hr3⟩, hn10⟩))
                        obtain ⟨r1, r2, r3, r4⟩ := hr3
                        have hof : Hid (Calls Try.prog 44 #[four 0 0 0 0, .slice A3 (128 * ct) c3] w10 fun e w' => e = .returned (.tuple #[fourT (sums (fun k => XL.getD k 0) (128 * ct / 4) (0, 0, 0, 0)), .int .i64 0]) ∧ New w10 w') := by
                          refine SumMore_ok 0 0 0 0 A3 (128 * ct) c3 (fun k => XL.getD k 0) w10 ⟨r3.1, fun i hi => ?_, r3.2⟩ (by omega) (by omega)
                          have hall : ∀ y ∈ XL, y < 256 := by
                            rw [hXL.out]
                            exact catL_lt (fun i k => rbF_lt _ _ _ _ _ _) _ _
                          show XL.getD i 0 < 256
                          rcases Nat.lt_or_ge i XL.length with h | h
                          · rw [show XL.getD i 0 = XL[i] by simp [List.getD, h]]
                            exact hall _ (List.getElem_mem h)
                          · rw [show XL.getD i 0 = 0 by simp [List.getD, h]]
                            omega
                        have hr3H := Lib.hid (And.intro r1 (And.intro r2 (And.intro r3 r4)))
                        obtain ⟨sm, hsm⟩ : ∃ sm, Hid (sm = sums (fun k => XL.getD k 0) (128 * ct / 4) (0, 0, 0, 0)) := ⟨_, rfl⟩
                        rw [← hsm.out] at hof
                        obtain ⟨t0, t1, t2, t3⟩ := sm
                        have hok : okS num pa ct wd L D lo (s0, s1, s2, s3) bs = decide ((t0, t1, t2, t3) = (s0, s1, s2, s3)) := by unfold okS; rw [← hXL.out, hsm.out]
                        have hokH := Lib.hid hok
                        have hN10 := Lib.hid (hN9H.out.next hn10)
                        have hn10' := hn10
                        clear r1 r2 r3 r4 hok hn10
                        refine hof.out.mono ?_
                        rintro e w11 ⟨rfl, hn11⟩
                        have hN11 := hN10.out.next hn11
                        have hX11 : Hid (RdI .u8 w11 A3 (128 * ct) (fun k => (XL.getD k 0 : Nat))) := hr3H.out.2.2.1.new hn11
                        have hB11 : Hid (RdI .i64 w11 BA k (atZ bs)) := hbRH.out.new (hn10'.next hn11)
                        have hS11 := hsum.out.new ((hnw.out.next hN7.out).next hN11)
                        have u0 := hS11.cell 0
                        have u1 := hS11.cell 1
                        have u2 := hS11.cell 2
                        have u3 := hS11.cell 3
                        simp at u0 u1 u2 u3
                        have hNf := Lib.hid ((hN5.out.next hnw5.out).next (hnw6.out.next hN11))
                        have hNr := Lib.hid (hnw5.out.next (hnw6.out.next hN11))
                        have hws : w.heap.size < w11.heap.size := hS11.lt
                        clear hN11 hS11
                        by_cases heq : (s0, s1, s2, s3) = (t0, t1, t2, t3)
                        · have hokx : Hid (okS num pa ct wd L D lo (s0, s1, s2, s3) bs = true) := by show _ = _; rw [hokH.out]; exact decide_eq_true heq.symm
                          have hfnd : Hid (fndS num pa ct wd Ls L D (s0, s1, s2, s3) = some bs) := by
                            show _ = _
                            unfold fndS
                            rw [← hlo.out, ← hke.out, hbs.out]
                            refine allC_hit (pre := S.take i) (t := S.drop (i + 1)) hnone.out ?_ (fun p hp => ?_) (by rw [← hbs.out]; exact hokx.out) (by omega)
                            · rw [← hS.out, hx.out, show S.getD i [] = S[i] by simp [List.getD, hiS], List.append_assoc, List.singleton_append, List.getElem_cons_drop, List.take_append_drop]
                            · obtain ⟨j, hj, he⟩ := List.getElem_of_mem hp
                              have hj2 : j < i := by simp at hj; omega
                              have := hall3.out j hj2
                              rw [show S.getD j [] = p by rw [← he]; simp [List.getD, show j < S.length by omega]] at this
                              exact this
                          simp only [Prod.mk.injEq] at heq
                          obtain ⟨rfl, rfl, rfl, rfl⟩ := heq
                          have hn0i : (0 : Int) ≤ (n : Int) := by omega
                          have hnc : (n : Int) ≤ (c3 : Int) := by have := hr3H.out.1; omega
                          go_wp2_with fail
                          refine bodyPost_ret (v := .tuple #[.slice A3 n c3, .slice BA k bc, .int .i64 0]) (by simp [results, Try.results19, go_sem]) rfl ?_
                          unfold GaS
                          rw [hbad.out, if_neg (by simp), ← hlo.out, if_neg hgt, hfnd.out]
                          show GaP n (dtL num pa ct wd L D (lo ++ bs)) bs 0 w _ _
                          have hbl9 : bs.length = k := by rw [hbs.out]; simp [asP, hxl]
                          rw [← hXL.out]
                          refine ⟨⟨A3, c3, BA, bc, by rw [hbl9], ?_, ?_⟩, hNf.out.alloc _⟩
                          · refine ⟨by unfold maxLen; omega, fun h0 => ?_⟩
                            obtain ⟨b, off, k1, k2, k3⟩ := (hX11.out.new ((New.refl w11).alloc _)).2 (by omega)
                            exact ⟨b, off, k1, k2, fun i hi' => k3 i (by omega)⟩
                          · rw [hbl9]
                            exact hB11.out.new ((New.refl w11).alloc _)
                        · have hokx : Hid (okS num pa ct wd L D lo (s0, s1, s2, s3) bs = false) := by show _ = _; rw [hokH.out]; exact decide_eq_false (fun h => heq h.symm)
                          have hall4 : Hid (∀ j, j < i + 1 → okS num pa ct wd L D lo (s0, s1, s2, s3) (asP ke (S.getD j [])) = false) := fun j hj => by
                            by_cases e : j = i
                            · rw [e, ← hx.out, ← hbs.out]; exact hokx.out
                            · exact hall3.out j (by omega)
                          simp only [Prod.mk.injEq] at heq
                          go_wp2_with fail
                          all_goals go_roundw
                          all_goals first
                            | exact ⟨i + 1, by go_num, by omega, hall4, hNr.out.alloc _⟩
                            | (simp [intOf]; omega)
                  · have hiS2 : i = S.length := by omega
                    subst hiS2
                    have hnx : Hid ((allC ke (k + 1)).find? (okS num pa ct wd L D lo (s0, s1, s2, s3)) = none) := allC_none hnone.out fun p hp => by
                      rw [← hS.out] at hp
                      obtain ⟨j, hj, he⟩ := List.getElem_of_mem hp
                      have := hall3.out j hj
                      rw [show S.getD j [] = p by rw [← he]; simp [List.getD, hj]] at this
                      exact this
                    have hNx := Lib.hid ((hnw4.out.next hn5).next hnw5.out)
                    go_wp2_with fail
                    go_roundw
                    case rel => exact ⟨k + 1, by go_num, by omega, hnx, hNx⟩
                    case measure => simp [intOf]; omega
              · have hki : ¬ (lo.length : Int) + (k : Int) ≤ (pa : Int) := by omega
                have hk2 : k = pa - lo.length + 1 := by omega
                have hfnd : Hid (fndS num pa ct wd Ls L D (s0, s1, s2, s3) = none) := by show _ = _; unfold fndS; rw [← hlo.out, ← hke.out, ← hk2]; exact hnone.out
                have hNf := Lib.hid (hN4.out.next hnw4.out)
                go_wp2_with fail
                exact bodyPost_ret (v := .tuple #[.slice none 0 0, .slice none 0 0, .int .i64 11]) (by simp [results, Try.results19, go_sem]) rfl (by unfold GaS; rw [hbad.out, if_neg (by simp), ← hlo.out, if_neg hgt, hfnd.out]; exact GaP.no rfl hNf.out)
end Go.Proofs.Ytjmjnodaohbpfaa.stripe
