/-
  Contract of stripe.Gather.
-/
import Derived.Test.YtjmjnodaohbpfaaGatherAll
namespace Go.Proofs.Ytjmjnodaohbpfaa.stripe
open Go.ChangeShapes Go.WideShapes Go.ChangeAt Go.RowKit Go.Proofs.Ytjmjnodaohbpfaa.kit Go.Proofs.Ytjmjnodaohbpfaa.geom Go.Proofs.Ytjmjnodaohbpfaa.par Go.Proofs.Ytjmjnodaohbpfaa.flet Go.Deep
set_option linter.unusedVariables false
set_option maxRecDepth 100000
attribute [local go_sem] Oper.semAt_some
theorem shaped_lenZ (d p a n : Int) (w : World) (h : n < 1 ∨ 1 ≤ n ∧ 4096 < n) :
    Calls Try.prog 32 #[.int .i64 d, .int .i64 p, .int .i64 a, .int .i64 n] w fun e w' => e = .returned (.tuple #[.agg zeroB, .int .i64 1]) ∧ New w w' := by
  have hx0 : Blk (w.alloc (.cells zeroB 57)) w.heap.size 57 zeroB := Blk.fresh _ _ _
  have hx := Lib.hid hx0
  have hs : Hid (∀ w', Calls Try.prog 53 #[.int .i64 n] w' fun e w'' => e = .returned (.bool false) ∧ w' = w'') := fun w' => by
    rcases h with h | ⟨h1, h2⟩
    · have h1 : ¬ (1 : Int) ≤ n := by omega
      clear h
      go_enter Try.func53, Try.ntmps53
      go_wp2
      go_ret
      exact ⟨rfl, rfl⟩
    · have h3 : ¬ n ≤ 4096 := by omega
      go_enter Try.func53, Try.ntmps53
      go_wp2
      go_ret
      exact ⟨rfl, rfl⟩
  clear h hx0
  go_enter Try.func32, Try.ntmps32
  go_wp2_with fail
  refine (hs.out _).mono ?_
  rintro e w1 ⟨rfl, rfl⟩
  go_wp2_with (refine wpList_store_row rfl 57 _ _ rfl w.heap.size zeroB rfl rfl 57 zeroB hx.out (by kernel_rfl) rfl (by unfold zeroB; simp [Value.oneCell']) ?_)
  exact bodyPost_ret (v := .tuple #[.agg zeroB, .int .i64 1]) (results_cell_slot Try.results32 _ _ w.heap.size 57 zeroB _ rfl (hx.out.row zeroB) Try.underlying57 rfl (by kernel_rfl)) rfl ⟨rfl, ((New.refl w).alloc _).row (Nat.le_refl _) _⟩
set_option maxHeartbeats 1000000 in
theorem Gather_bad (d p a n s0 s1 s2 s3 cd : Int) (PA : Option Addr) (m c : Nat) (w : World) (hcd : (cd != 0) = true) (hsh : Hid (∀ w, Calls Try.prog 32 #[.int .i64 d, .int .i64 p, .int .i64 a, .int .i64 n] w fun e w' => e = .returned (.tuple #[.agg zeroB, .int .i64 cd]) ∧ New w w')) :
    Calls Try.prog 18 #[.int .i64 d, .int .i64 p, .int .i64 a, .int .i64 n, .slice PA m c, four s0 s1 s2 s3] w (GaP 0 [] [] cd w) := by
  have hg := Lib.hid (G0.start (n := n) (s0 := s0) (s1 := s1) (s2 := s2) (s3 := s3) (PA := PA) (m := m) (c := c) w)
  have hN := Lib.hid (((((((New.refl w).alloc (.cells #[.int .i64 n] 3)).alloc (.cells #[.slice PA m c] 36)).alloc (.cells #[.int .i64 s0, .int .i64 s1, .int .i64 s2, .int .i64 s3] 38)).alloc (.cells #[.slice none 0 0] 32)).alloc (.cells #[.slice none 0 0] 29)).alloc (.cells #[.int .i64 0] 24))
  refine (callsIn_wide (n := 3)).1 ?_
  refine callsIn_of_wp_marks Try.func18 rfl trivial ?_ rfl; simp only [Try.ntmps18, List.size_toArray, List.length_cons, List.length_nil, Nat.reduceAdd, Nat.reduceSub, Array.replicate_succ, Array.replicate_zero, List.push_toArray, List.append_toArray, List.nil_append, List.cons_append]
  refine wpIn_wide.2 ?_
  go_wp2_with fail
  refine (hsh.out _).mono ?_
  unfold zeroB
  rintro e w1 ⟨rfl, hn1⟩
  have hg1 := Lib.hid (hg.out.new hn1)
  have hN1 := Lib.hid (hN.out.next hn1)
  have c3 := hg1.out.q3.cell
  have f3 := hg1.out.q3.frozen
  have c4 := hg1.out.q4.cell
  have f4 := hg1.out.q4.frozen
  have c5 := hg1.out.q5.cell
  have f5 := hg1.out.q5.frozen
  have hsz := hg1.out.q5.lt
  clear hn1 hg hN hsh
  generalize hb5 : w.heap.size + 1 + 1 + 1 + 1 + 1 = b5 at c5 f5 hsz ⊢
  generalize hb4 : w.heap.size + 1 + 1 + 1 + 1 = b4 at c4 f4 ⊢
  generalize hb3 : w.heap.size + 1 + 1 + 1 = b3 at c3 f3 ⊢
  have n1 : b3 ≠ b4 := by omega
  have n2 : b3 ≠ b5 := by omega
  have n3 : b4 ≠ b5 := by omega
  have m1 : b4 ≠ b3 := by omega
  have m2 : b5 ≠ b3 := by omega
  have m3 : b5 ≠ b4 := by omega
  have hB3 : w.heap.size ≤ b3 := by omega
  have hB4 : w.heap.size ≤ b4 := by omega
  have hB5 : w.heap.size ≤ b5 := by omega
  have z3 : b3 < w1.heap.size := by omega
  have z4 : b4 < w1.heap.size := by omega
  clear hb3 hb4 hb5
  go_wp2_with fail
  have hfin : Hid (New w ((((w1.setCell ⟨b3, 0, none⟩ (.slice none 0 0)).setCell ⟨b4, 0, none⟩ (.slice none 0 0)).setCell ⟨b5, 0, none⟩ (.int .i64 cd)).alloc (.cells #[.slice none 0 0, .int .i64 0, .int .i64 0] 57))) := ((((hN1.out.set hB3 _).set hB4 _).set hB5 _).alloc _)
  exact ⟨.tuple #[.slice none 0 0, .slice none 0 0, .int .i64 cd], by simp [results, Try.results18, go_sem, *], GaP.no rfl hfin.out⟩
set_option maxHeartbeats 1000000 in
theorem Gather_form (dr pa ad wd ct n num m c : Nat) (s0 s1 s2 s3 : Int) (PA : Option Addr) (w : World)
    (h1 : 2 ≤ dr) (h2 : dr ≤ 8) (h3 : 1 ≤ pa) (h4 : pa ≤ 3) (h5 : dr = pa + wd) (h6 : 1 ≤ wd) (h7 : ad ≤ 65536) (h : 1 ≤ n ∧ n ≤ 4096) (hct : ct = (n + 127) / 128) (hnum : num = numP dr pa ct wd) (hm : m ≠ num) :
    Calls Try.prog 18 #[.int .i64 dr, .int .i64 pa, .int .i64 ad, .int .i64 n, .slice PA m c, four s0 s1 s2 s3] w (GaP 0 [] [] 4 w) := by
  have hsh := Lib.hid (fun w => shaped_ok dr pa ad n wd ct h1 h2 h3 h4 h5 h6 h7 h hct w)
  rw [← hnum] at hsh
  have hg := Lib.hid (G0.start (n := n) (s0 := s0) (s1 := s1) (s2 := s2) (s3 := s3) (PA := PA) (m := m) (c := c) w)
  have hN := Lib.hid (((((((New.refl w).alloc (.cells #[.int .i64 n] 3)).alloc (.cells #[.slice PA m c] 36)).alloc (.cells #[.int .i64 s0, .int .i64 s1, .int .i64 s2, .int .i64 s3] 38)).alloc (.cells #[.slice none 0 0] 32)).alloc (.cells #[.slice none 0 0] 29)).alloc (.cells #[.int .i64 0] 24))
  obtain ⟨Lg, hLg⟩ : ∃ Lg, Hid (Lg = 128 * cntC pa ct wd 0) := ⟨_, rfl⟩
  rw [← hLg.out] at hsh
  have hmn : ((m : Int) != (num : Int)) = true := by simp; omega
  clear hnum hct h h5 hm
  refine (callsIn_wide (n := 3)).1 ?_
  refine callsIn_of_wp_marks Try.func18 rfl trivial ?_ rfl; simp only [Try.ntmps18, List.size_toArray, List.length_cons, List.length_nil, Nat.reduceAdd, Nat.reduceSub, Array.replicate_succ, Array.replicate_zero, List.push_toArray, List.append_toArray, List.nil_append, List.cons_append]
  refine wpIn_wide.2 ?_
  go_wp2_with fail
  refine (hsh.out _).mono ?_
  rintro e w1 ⟨⟨LA, cl, rfl, hown⟩, hn1⟩
  have hg1 := Lib.hid (hg.out.new hn1)
  have hN1 := Lib.hid (hN.out.next hn1)
  have c1 := (hg1.out.q1.alloc (.cells #[.slice LA num cl, .int .i64 pa, .int .i64 Lg] 57)).cell
  have c3 := hg1.out.q3.cell
  have f3 := hg1.out.q3.frozen
  have c4 := hg1.out.q4.cell
  have f4 := hg1.out.q4.frozen
  have c5 := hg1.out.q5.cell
  have f5 := hg1.out.q5.frozen
  have hsz := hg1.out.q5.lt
  clear hn1 hg hN hsh hown
  generalize hb5 : w.heap.size + 1 + 1 + 1 + 1 + 1 = b5 at c5 f5 hsz ⊢
  generalize hb4 : w.heap.size + 1 + 1 + 1 + 1 = b4 at c4 f4 ⊢
  generalize hb3 : w.heap.size + 1 + 1 + 1 = b3 at c3 f3 ⊢
  have n1 : b3 ≠ b4 := by omega
  have n2 : b3 ≠ b5 := by omega
  have n3 : b4 ≠ b5 := by omega
  have m1 : b4 ≠ b3 := by omega
  have m2 : b5 ≠ b3 := by omega
  have m3 : b5 ≠ b4 := by omega
  have hB3 : w.heap.size ≤ b3 := by omega
  have hB4 : w.heap.size ≤ b4 := by omega
  have hB5 : w.heap.size ≤ b5 := by omega
  have z3 : b3 < w1.heap.size := by omega
  have z4 : b4 < w1.heap.size := by omega
  clear hb3 hb4 hb5
  go_wp2_with fail
  have hfin : Hid (New w ((((w1.setCell ⟨b3, 0, none⟩ (.slice none 0 0)).setCell ⟨b4, 0, none⟩ (.slice none 0 0)).setCell ⟨b5, 0, none⟩ (.int .i64 4)).alloc (.cells #[.slice LA num cl, .int .i64 pa, .int .i64 Lg] 57))) := ((((hN1.out.set hB3 _).set hB4 _).set hB5 _).alloc _)
  exact ⟨.tuple #[.slice none 0 0, .slice none 0 0, .int .i64 4], by simp [results, Try.results18, go_sem, *], GaP.no rfl hfin.out⟩
/-- is a pick the one that is looked for? -/
def okS (num pa ct wd : Nat) (L : Nat → Nat) (D : Nat → Nat → Nat) (lo : List Nat) (s : Int × Int × Int × Int) (b : List Nat) : Bool :=
  decide (sums (fun k => (dtL num pa ct wd L D (lo ++ b)).getD k 0) (128 * ct / 4) (0, 0, 0, 0) = s)
def fndS (num pa ct wd : Nat) (Ls : Nat → Bool) (L : Nat → Nat) (D : Nat → Nat → Nat) (s : Int × Int × Int × Int) : Option (List Nat) :=
  (allC (keptL Ls num) (pa - (lostL Ls num).length + 1)).find? (okS num pa ct wd L D (lostL Ls num) s)
/-- what Gather answers, the arguments being of the form -/
def GaS (num pa ct wd n : Nat) (Ls : Nat → Bool) (L : Nat → Nat) (D : Nat → Nat → Nat) (s : Int × Int × Int × Int) (w : World) (e : Ending) (w' : World) : Prop :=
  if badL Ls L (fun c => 128 * cntC pa ct wd c) num = true then GaP 0 [] [] 4 w e w'
  else if pa < (lostL Ls num).length then GaP 0 [] [] 12 w e w'
  else match fndS num pa ct wd Ls L D s with
    | some b => GaP n (dtL num pa ct wd L D (lostL Ls num ++ b)) b 0 w e w'
    | none => GaP 0 [] [] 11 w e w'
set_option maxHeartbeats 4000000 in
theorem Gather_ok (dr pa ad wd ct n num m c : Nat) (s0 s1 s2 s3 : Int) (PA : Option Addr) (Ls : Nat → Bool) (R : Nat → Option Addr) (L C : Nat → Nat) (D : Nat → Nat → Nat) (w : World)
    (h1 : 2 ≤ dr) (h2 : dr ≤ 8) (h3 : 1 ≤ pa) (h4 : pa ≤ 3) (h5 : dr = pa + wd) (h6 : 1 ≤ wd) (h7 : ad ≤ 65536) (h : 1 ≤ n ∧ n ≤ 4096) (hct : ct = (n + 127) / 128) (hnum : num = numP dr pa ct wd) (hP : RdP w PA num Ls R L C D) :
    Calls Try.prog 18 #[.int .i64 dr, .int .i64 pa, .int .i64 ad, .int .i64 n, .slice PA num c, four s0 s1 s2 s3] w (GaS num pa ct wd n Ls L D (s0, s1, s2, s3) w) := by
  have hsh := Lib.hid (fun w => shaped_ok dr pa ad n wd ct h1 h2 h3 h4 h5 h6 h7 h hct w)
  rw [← hnum] at hsh
  obtain ⟨i1, hj0, hy0, hy1, hy2⟩ := info_parts infoIn
  have hc1 : 1 ≤ ct := by omega
  have hc2 : ct ≤ 32 := by omega
  have hn := numP_eq (pa := pa) h6 hc1
  rw [← h5, ← hnum] at hn
  have hdc := dc_pos h6 hc1
  have hdl := dc_le h6 hc1
  have hc0 := cnt_max (pa := pa) h6 hc1 hc2 h3
  have hn8 : num ≤ 8 := by omega
  have hn0 : 0 < num := by omega
  obtain ⟨pb, po, rfl, hpb, hpc⟩ := hP.2.1 hn0
  replace hpc := Lib.hid hpc
  have hg := Lib.hid (G0.start (n := n) (s0 := s0) (s1 := s1) (s2 := s2) (s3 := s3) (PA := some ⟨pb, po, none⟩) (m := num) (c := c) w)
  have hN := Lib.hid (((((((New.refl w).alloc (.cells #[.int .i64 n] 3)).alloc (.cells #[.slice (some ⟨pb, po, none⟩) num c] 36)).alloc (.cells #[.int .i64 s0, .int .i64 s1, .int .i64 s2, .int .i64 s3] 38)).alloc (.cells #[.slice none 0 0] 32)).alloc (.cells #[.slice none 0 0] 29)).alloc (.cells #[.int .i64 0] 24))
  have hPH := Lib.hid hP
  have hnH := Lib.hid hn
  have h0i := h.1
  have h1i := h.2
  obtain ⟨Lg, hLg⟩ : ∃ Lg, Hid (Lg = 128 * cntC pa ct wd 0) := ⟨_, rfl⟩
  rw [← hLg.out] at hsh
  have hnct : n ≤ 128 * ct := by omega
  clear hP hnum hct h h5 hn
  refine (callsIn_wide (n := 3)).1 ?_
  refine callsIn_of_wp_marks Try.func18 rfl trivial ?_ rfl; simp only [Try.ntmps18, List.size_toArray, List.length_cons, List.length_nil, Nat.reduceAdd, Nat.reduceSub, Array.replicate_succ, Array.replicate_zero, List.push_toArray, List.append_toArray, List.nil_append, List.cons_append]
  refine wpIn_wide.2 ?_
  go_wp2_with fail
  refine (hsh.out _).mono ?_
  rintro e w1 ⟨⟨LA, cl, rfl, hown⟩, hn1⟩
  have hg1 := hg.out.new hn1
  have hN1 := hN.out.next hn1
  have hz1 : w.heap.size + 6 ≤ w1.heap.size := by have := hn1.size; simpa using this
  obtain ⟨bcs, hbcs⟩ : ∃ bcs : Array Value, bcs = #[.slice LA num cl, .int .i64 pa, .int .i64 Lg] := ⟨_, rfl⟩
  obtain ⟨cb, hcb⟩ : ∃ cb, Hid (cb = w.heap.size) := ⟨_, rfl⟩
  have hA : GA w n s0 s1 s2 s3 (some ⟨pb, po, none⟩) num c w1.heap.size cb (w1.heap.size + 1 + 1 + 1) (w1.heap.size + 1) (w1.heap.size + 1 + 1) bcs LA num cl dr pa ad (cntC pa ct wd) [] [] (.slice none 0 0) (.slice none 0 0)
      (((w1.alloc (.cells #[.slice LA num cl, .int .i64 pa, .int .i64 Lg] 57)).alloc (.cells #[.slice none 0 0] 29)).alloc (.cells #[.slice none 0 0] 29)) := by
    have hNN := (((New.refl w1).alloc (.cells #[.slice LA num cl, .int .i64 pa, .int .i64 Lg] 57)).alloc (.cells #[.slice none 0 0] 29)).alloc (.cells #[.slice none 0 0] 29)
    refine ⟨hN1.next hNN, hg1.new hNN, ?_, ⟨?_, ?_, World.ownsRow_nil _ _ _ _, World.ownsRow_nil _ _ _ _, .inl rfl, by omega, by omega⟩, (own_new hown hNN).mono (by rw [hcb.out]; simp; omega), by omega⟩
    · rw [hbcs]
      exact ((Blk.fresh w1 _ _).alloc _).alloc _
    · have := Boxed.new (w1.alloc (.cells #[.slice LA num cl, .int .i64 pa, .int .i64 Lg] 57)) 29 (.slice none 0 0)
      simp only [World.size_alloc] at this
      exact this.alloc _
    · have := Boxed.new ((w1.alloc (.cells #[.slice LA num cl, .int .i64 pa, .int .i64 Lg] 57)).alloc (.cells #[.slice none 0 0] 29)) 29 (.slice none 0 0)
      simp only [World.size_alloc] at this
      exact this
  replace hA := Lib.hid hA
  have c1 := (hg1.q1.alloc (.cells #[.slice LA num cl, .int .i64 pa, .int .i64 Lg] 57)).cell
  have hbcs0 := Lib.hid hbcs
  obtain ⟨W3, hW3⟩ : ∃ W3, W3 = (((w1.alloc (.cells #[.slice LA num cl, .int .i64 pa, .int .i64 Lg] 57)).alloc (.cells #[.slice none 0 0] 29)).alloc (.cells #[.slice none 0 0] 29)) := ⟨_, rfl⟩
  rw [← hW3] at hA
  have c3 := hA.out.g0.q1.cell
  have c3' : (((w1.alloc (.cells #[.slice LA num cl, .int .i64 pa, .int .i64 Lg] 57)).alloc (.cells #[.slice none 0 0] 29)).alloc (.cells #[.slice none 0 0] 29)).cell? ⟨w.heap.size + 1, 0, none⟩ = some (.slice (some ⟨pb, po, none⟩) num c) := by rw [← hW3]; exact c3
  clear hn1 hg hN hsh hown hg1 hN1 hbcs
  go_wp2_with fail
  rw [← hW3]
  clear hW3 c1 c3'
  generalize hbase : w1.heap.size + 1 + 1 + 1 = base at hA ⊢
  generalize hkb : w1.heap.size + 1 + 1 = kb at hA ⊢
  generalize hlb : w1.heap.size + 1 = lb at hA ⊢
  generalize hbb : w1.heap.size = bb at hA hz1 hlb hkb hbase ⊢
  clear c3
  go_loopw [47] (fun x wr => ∃ (i : Nat) (lv kv : Value), x = .int .i64 i ∧ i ≤ num ∧ Hid (badL Ls L (fun c => 128 * cntC pa ct wd c) i = false) ∧ Hid (GA w n s0 s1 s2 s3 (some ⟨pb, po, none⟩) num c bb cb base lb kb bcs LA num cl dr pa ad (cntC pa ct wd) (lostL Ls i) (keptL Ls i) lv kv wr)) (fun x _ => num - (intOf x).toNat)
  case atStart => exact ⟨0, _, _, rfl, by omega, rfl, hA⟩
  case round =>
    clear hA
    obtain ⟨i, lv, kv, rfl, hi, hbad, hA⟩ := hrel
    by_cases hlt : i < num
    · have e0 : wr.cell? ⟨pb, po + i * 2, none⟩ = some (.bool (Ls i)) := (hA.out.nw.cell hpb).trans (hpc.out i hlt).1
      have e1 : wr.cell? ⟨pb, po + i * 2 + 1, none⟩ = some (.slice (R i) (L i) (C i)) := (hA.out.nw.cell hpb).trans (hpc.out i hlt).2
      have hbs : base ≤ wr.heap.size := by have := hA.out.gl.bk.lt; omega
      have hlk := lk_len (Ls := Ls) i
      cases hl : Ls i with
      | true =>
        rw [hl] at e0
        obtain ⟨y1, y2⟩ := lost_yes hl
        have hA1 := hA.out.new ((New.refl wr).alloc (.cells #[.bool true, .slice (R i) (L i) (C i)] 65))
        have hown1 := hA1.gl.ol
        have e2 := hA1.gl.bl.cell
        have hbad2 : Hid (badL Ls L (fun c => 128 * cntC pa ct wd c) (i + 1) = false) := by show _ = _; unfold badL; rw [hbad.out, hl]; rfl
        replace hA1 := Lib.hid hA1
        obtain ⟨lo, hlo⟩ : ∃ lo, Hid (lo = lostL Ls i) := ⟨_, rfl⟩
        rw [← hlo.out] at hown1 hA1 y1 hlk
        have y12 := Lib.hid (And.intro y1 y2)
        clear y1 y2
        go_wp2_with (at_builtin; refine wpList_append_lies _ rfl _ _ 29 rfl base 3 i1 _ 1 8 Try.underlying29 hj0 hy0 hy1 hy2 rfl (by decide) lv lo.length (lo.map comb.encN) rfl (hown1.alloc _) ⟨wr.heap.size + 1, 0, none⟩ 1 1 [.int .i64 i] rfl rfl (World.news_of_block (cs := #[.int .i64 _]) (t := 3) (fr := (0, 0)) (by simpa using heap_alloc_new (wr.alloc (.cells #[.bool true, .slice (R i) (L i) (C i)] 65)) _)) (by simp [Value.oneCell']) (by omega) (by unfold maxLen; omega) (by omega) (by simp; omega) _ rfl ?_; intro g cap w6 hown6 hgr6 hat6 hlt6; have f1 := (hA1.out.lbox hgr6).cell; have f2 := (hA1.out.lbox hgr6).frozen; have hfin := Lib.hid (hA1.out.lost hown6 hgr6 (hat6.imp id fun h => by rw [h]; simp)); clear hown6 hgr6 hat6)
        go_roundw
        case rel => exact ⟨i + 1, _, kv, by go_num, by omega, hbad2, by rw [y12.out.1, y12.out.2]; exact hfin⟩
        case measure => simp [intOf]; omega
      | false =>
        rw [hl] at e0
        obtain ⟨y1, y2⟩ := lost_no hl
        have hA1 := hA.out.new ((New.refl wr).alloc (.cells #[.bool false, .slice (R i) (L i) (C i)] 65))
        obtain ⟨wp, hwp⟩ : ∃ wp, wp = wr.alloc (.cells #[.bool false, .slice (R i) (L i) (C i)] 65) := ⟨_, rfl⟩
        have k0 : wp.cell? ⟨wr.heap.size, 1, none⟩ = some (.slice (R i) (L i) (C i)) := by rw [hwp]; exact (Blk.fresh wr 65 _).cell 1
        rw [← hwp] at hA1
        have k1 := hA1.bk.cell 0
        have k2 := hA1.bk.cell 1
        have k3 := hA1.bk.cell 2
        rw [hbcs0.out] at k1 k2 k3
        simp at k1 k2 k3
        have k0' := NewW.keep k0
        have k1' := NewW.keep k1
        have k2' := NewW.keep k2
        have k3' := NewW.keep k3
        obtain ⟨sz, hsz⟩ : ∃ sz, Hid (sz = 128 * cntC pa ct wd i) := ⟨_, rfl⟩
        have hszc : Hid (∀ w', New wp w' → Calls Try.prog 35 #[.agg #[.slice LA num cl, .int .i64 pa, .int .i64 Lg], .int .i64 i] w' fun e w'' => e = .returned (.int .i64 (sz : Nat)) ∧ New w' w'') := fun w' hn => by
          rw [hsz.out]
          exact size_any LA num cl cb dr pa ad i Lg pa _ w' (own_new hA1.col hn) hlt hn8 (by have := cnt_le (pa := pa) (ct := ct) h6 hc1 h3 i; omega)
        have hA1H := Lib.hid hA1
        clear k0 k1 k2 k3 hA1
        go_wp2_with fail
        rw [← hwp]
        clear hwp
        (refine wp_region_quiet_new (by kernel_rfl) (by kernel_rfl) ?_; (repeat (first | go_big_quiet_step (first | (go_at_call 35; exact NewW.call _ (hszc.out _ (NewW.is _)))) | quiet_step (first | (go_at_call 35; exact NewW.call _ (hszc.out _ (NewW.is _)))))); refine wpQuiet_nil ?_; rintro W2 ⟨⟨_, hn_W2⟩, rfl⟩)
        have hA2 := hA1H.out.new hn_W2
        by_cases hb : L i = sz
        · have hne : ((L i : Int) != (sz : Int)) = false := by rw [hb]; simp
          have hbad2 : Hid (badL Ls L (fun c => 128 * cntC pa ct wd c) (i + 1) = false) := by show _ = _; unfold badL; rw [hbad.out, hl, hb, hsz.out]; simp
          have hown1 := hA2.gl.ok
          have e3 := hA2.gl.bk.cell
          have hbs2 : base ≤ W2.heap.size := by have := hA2.gl.bk.lt; omega
          replace hA2 := Lib.hid hA2
          obtain ⟨ke, hke⟩ : ∃ ke, Hid (ke = keptL Ls i) := ⟨_, rfl⟩
          rw [← hke.out] at hown1 hA2 y2 hlk
          have y12 := Lib.hid (And.intro y1 y2)
          clear y1 y2
          go_wp2_with (at_builtin; refine wpList_append_lies _ rfl _ _ 29 rfl base 3 i1 _ 1 8 Try.underlying29 hj0 hy0 hy1 hy2 rfl (by decide) kv ke.length (ke.map comb.encN) rfl (hown1.alloc _) ⟨W2.heap.size, 0, none⟩ 1 1 [.int .i64 i] rfl rfl (World.news_of_block (cs := #[.int .i64 _]) (t := 3) (fr := (0, 0)) (heap_alloc_new W2 _)) (by simp [Value.oneCell']) (by omega) (by unfold maxLen; omega) (by omega) (by simp; omega) _ rfl ?_; intro g cap w6 hown6 hgr6 hat6 hlt6; have f1 := (hA2.out.kbox hgr6).cell; have f2 := (hA2.out.kbox hgr6).frozen; have hfin := Lib.hid (hA2.out.kept hown6 hgr6 (hat6.imp id fun h => by rw [h]; simp)); clear hown6 hgr6 hat6)
          go_roundw
          case rel => exact ⟨i + 1, lv, _, by go_num, by omega, hbad2, by rw [y12.out.1, y12.out.2]; exact hfin⟩
          case measure => simp [intOf]; omega
        · have hne : ((L i : Int) != (sz : Int)) = true := by simp; omega
          have hbadA : Hid (badL Ls L (fun c => 128 * cntC pa ct wd c) num = true) := badL_at hlt hl (by rw [← hsz.out]; exact hb)
          have c3 := hA2.g0.q3.cell
          have f3 := hA2.g0.q3.frozen
          have c4 := hA2.g0.q4.cell
          have f4 := hA2.g0.q4.frozen
          have c5 := hA2.g0.q5.cell
          have f5 := hA2.g0.q5.frozen
          have hz5 := hA2.g0.q5.lt
          have hNr := Lib.hid hA2.nw
          clear hA2 hA hA1H
          generalize hb5 : w.heap.size + 1 + 1 + 1 + 1 + 1 = b5 at c5 f5 hz5 ⊢
          generalize hb4 : w.heap.size + 1 + 1 + 1 + 1 = b4 at c4 f4 ⊢
          generalize hb3 : w.heap.size + 1 + 1 + 1 = b3 at c3 f3 ⊢
          have n1 : b3 ≠ b4 := by omega
          have n2 : b3 ≠ b5 := by omega
          have n3 : b4 ≠ b5 := by omega
          have m1 : b4 ≠ b3 := by omega
          have m2 : b5 ≠ b3 := by omega
          have m3 : b5 ≠ b4 := by omega
          have hB3 : w.heap.size ≤ b3 := by omega
          have hB4 : w.heap.size ≤ b4 := by omega
          have hB5 : w.heap.size ≤ b5 := by omega
          have z3 : b3 < W2.heap.size := by omega
          have z4 : b4 < W2.heap.size := by omega
          clear hb3 hb4 hb5
          go_wp2_with fail
          have hfin : Hid (New w (((W2.setCell ⟨b3, 0, none⟩ (.slice none 0 0)).setCell ⟨b4, 0, none⟩ (.slice none 0 0)).setCell ⟨b5, 0, none⟩ (.int .i64 4))) := (((hNr.out.set hB3 _).set hB4 _).set hB5 _)
          exact ⟨.tuple #[.slice none 0 0, .slice none 0 0, .int .i64 4], by simp [results, Try.results18, go_sem, *], by unfold GaS; rw [if_pos hbadA.out]; exact GaP.no rfl hfin.out⟩
    · have hin : num = i := by omega
      subst hin
      obtain ⟨lo, hlo⟩ : ∃ lo, Hid (lo = lostL Ls num) := ⟨_, rfl⟩
      obtain ⟨ke, hke⟩ : ∃ ke, Hid (ke = keptL Ls num) := ⟨_, rfl⟩
      have hlk := lk_len (Ls := Ls) num
      rw [← hlo.out, ← hke.out] at hA hlk
      have e2 := hA.out.gl.bl.cell
      obtain ⟨LA2, lc, rfl, hlc, _⟩ := own_open hA.out.gl.ol
      obtain ⟨KA2, kc, rfl, hkc, _⟩ := own_open hA.out.gl.ok
      by_cases hgt : pa < lo.length
      · have c3 := hA.out.g0.q3.cell
        have f3 := hA.out.g0.q3.frozen
        have c4 := hA.out.g0.q4.cell
        have f4 := hA.out.g0.q4.frozen
        have c5 := hA.out.g0.q5.cell
        have f5 := hA.out.g0.q5.frozen
        have hz5 := hA.out.g0.q5.lt
        have hNr := Lib.hid hA.out.nw
        generalize hb5 : w.heap.size + 1 + 1 + 1 + 1 + 1 = b5 at c5 f5 hz5 ⊢
        generalize hb4 : w.heap.size + 1 + 1 + 1 + 1 = b4 at c4 f4 ⊢
        generalize hb3 : w.heap.size + 1 + 1 + 1 = b3 at c3 f3 ⊢
        have n1 : b3 ≠ b4 := by omega
        have n2 : b3 ≠ b5 := by omega
        have n3 : b4 ≠ b5 := by omega
        have m1 : b4 ≠ b3 := by omega
        have m2 : b5 ≠ b3 := by omega
        have m3 : b5 ≠ b4 := by omega
        have hB3 : w.heap.size ≤ b3 := by omega
        have hB4 : w.heap.size ≤ b4 := by omega
        have hB5 : w.heap.size ≤ b5 := by omega
        have z3 : b3 < wr.heap.size := by omega
        have z4 : b4 < wr.heap.size := by omega
        clear hb3 hb4 hb5
        go_wp2_with fail
        have hfin : Hid (New w (((wr.setCell ⟨b3, 0, none⟩ (.slice none 0 0)).setCell ⟨b4, 0, none⟩ (.slice none 0 0)).setCell ⟨b5, 0, none⟩ (.int .i64 12))) := (((hNr.out.set hB3 _).set hB4 _).set hB5 _)
        exact ⟨.tuple #[.slice none 0 0, .slice none 0 0, .int .i64 12], by simp [results, Try.results18, go_sem, *], by unfold GaS; rw [hbad.out, if_neg (by simp), ← hlo.out, if_pos hgt]; exact GaP.no rfl hfin.out⟩
      · have hle : ¬ (pa : Int) < (lo.length : Int) := by omega
        have hA0 := hA
        go_wp2_with fail
        refine wp_loop (fun a w' => ∃ (ds : List Deferred) (k : Nat) (Ds : List Nat) (us : Nat → Value), us = (fun k => a.tmps.getD k undef) ∧ (ds = marks Ds ∧ k ≤ pa - lo.length + 1 ∧ k ≤ ke.length + 1 ∧ Hid ((allC ke k).find? (okS num pa ct wd L D lo (s0, s1, s2, s3)) = none) ∧ Hid (GA w n s0 s1 s2 s3 (some ⟨pb, po, none⟩) num c bb cb base lb kb bcs LA num cl dr pa ad (cntC pa ct wd) lo ke (.slice LA2 lo.length lc) (.slice KA2 ke.length kc) w') ∧ Hid (Taken w.heap.size Ds w'))
          ∧ a = { tmps := #[.int .i64 dr, .int .i64 pa, .int .i64 ad, .int .i64 n, .slice (some ⟨pb, po, none⟩) num c, four s0 s1 s2 s3, undef, undef, undef, .pointer (some ⟨w.heap.size, 0, none⟩), .pointer (some ⟨w.heap.size + 1, 0, none⟩), .pointer (some ⟨w.heap.size + 1 + 1, 0, none⟩), .pointer (some ⟨w.heap.size + 1 + 1 + 1, 0, none⟩), .pointer (some ⟨w.heap.size + 1 + 1 + 1 + 1, 0, none⟩), .pointer (some ⟨w.heap.size + 1 + 1 + 1 + 1 + 1, 0, none⟩), .pointer (some ⟨bb, 0, none⟩), .int .i64 0, .pointer (some ⟨lb, 0, none⟩), .pointer (some ⟨kb, 0, none⟩), u19, u20, .int .i64 k, us 22, us 23, us 24, us 25, us 26, us 27, .tuple #[.agg #[.slice LA num cl, .int .i64 pa, .int .i64 Lg], .int .i64 0], .int .i64 dr, .int .i64 pa, .int .i64 ad, .int .i64 n, .tuple #[.agg #[.slice LA num cl, .int .i64 pa, .int .i64 Lg], .int .i64 0], .agg #[.slice LA num cl, .int .i64 pa, .int .i64 Lg], .int .i64 0, .int .i64 0, .bool false, undef, .slice (some ⟨pb, po, none⟩) num c, .int .i64 num, .pointer (some ⟨bb, 0, none⟩), .slice LA num cl, .int .i64 num, .bool false, .slice (some ⟨pb, po, none⟩) num c, .int .i64 num, .int .i64 num, .bool false, u49, u50, u51, u52, u53, u54, u55, u56, u57, u58, u59, u60, u61, u62, u63, u64, u65, u66, u67, u68, u69, .slice LA2 lo.length lc, .int .i64 lo.length, .int .i64 pa, .bool false, us 74, us 75, us 76, us 77, us 78, us 79, us 80, us 81, us 82, us 83, us 84, us 85, us 86, us 87, us 88, us 89, us 90, us 91, us 92, us 93, us 94, us 95, us 96, us 97, us 98, us 99, us 100, us 101, us 102, us 103, us 104, us 105, us 106, us 107, us 108, us 109, us 110, us 111, us 112, us 113, us 114, us 115, us 116, us 117, us 118, us 119, us 120, us 121, us 122, us 123, us 124, us 125, us 126, us 127], defers := ds }) (fun a _ => pa + 1 - (intOf (a.tmps.getD 21 undef)).toNat) ?start ?round
        case start => exact ⟨_, 0, [], _, rfl, ⟨rfl, Nat.zero_le _, Nat.zero_le _, rfl, hA0, Taken.nil _ _⟩, rfl⟩
        case round =>
          clear hA hA0 e2
          rintro a wr ⟨ds, k, Ds, us, -, ⟨rfl, hk1, hk2, hnone, hA, hT⟩, rfl⟩
          have e2 := hA.out.gl.bl.cell
          have e3 := hA.out.gl.bk.cell
          have hKA := Lib.hid hA.out.gl.ok
          have hLA := Lib.hid hA.out.gl.ol
          by_cases hc : k ≤ pa - lo.length ∧ k ≤ ke.length
          · obtain ⟨hca, hcb⟩ := hc
            have hca1 : (k : Int) ≤ (pa : Int) - (lo.length : Int) := by omega
            have hcb1 : (k : Int) ≤ (ke.length : Int) := by omega
            go_wp2_with fail
            refine (comb.Each_any _ _ _).mono ?_
            rintro e w1 ⟨rfl, rfl⟩
            go_wp2_with fail
            have hke12 : ke.length ≤ 12 := by omega
            obtain ⟨Wl, hWl⟩ : ∃ Wl, Wl = (wr.alloc (.cells #[.int .i64 ke.length] 3)).alloc (.cells #[.int .i64 k] 3) := ⟨_, rfl⟩
            have hnl : New wr Wl := by rw [hWl]; exact ((New.refl wr).alloc _).alloc _
            have hsl : Wl.heap.size = wr.heap.size + 2 := by rw [hWl]; simp
            have hbn : Boxed Wl wr.heap.size 3 (.int .i64 ke.length) := by rw [hWl]; exact (Boxed.new wr _ _).alloc _
            have hbk : Boxed Wl (wr.heap.size + 1) 3 (.int .i64 k) := by
              rw [hWl]
              have := Boxed.new (wr.alloc (.cells #[.int .i64 ke.length] 3)) 3 (.int .i64 k)
              simpa using this
            rw [← hWl]
            have hst := comb.each_stops (m := 3) ke.length k wr.heap.size (wr.heap.size + 1) Wl hke12 hcb hbn hbk
            have hAl := Lib.hid (hA.out.new hnl)
            have hTl := Lib.hid (hT.out.new hnl)
            have hDl : Hid (∀ D ∈ Ds, D < Wl.heap.size) := fun D hD => hTl.out.lt hD
            have hbl0 := hA.out.gl.bl.lt
            have hsz0 := hA.out.sz
            clear e2 e3 hWl hA hT
            have hw6 : w.heap.size + 6 ≤ wr.heap.size := by omega
            have hb6 : w.heap.size + 6 ≤ Wl.heap.size := by have := hAl.out.gl.bl.lt; have := hAl.out.sz; omega
            have hKn : Hid (∀ lo' hi' X Y, each.Held (comb.Kn (Wl.heap.size - 2) (Wl.heap.size - 2 + 1)) lo' hi' X Y → each.Held (comb.Kn wr.heap.size (wr.heap.size + 1)) lo' hi' X Y) := fun lo' hi' X Y h => by
              rw [hsl, show wr.heap.size + 2 - 2 = wr.heap.size by omega] at h
              exact h
            refine (wpIn_wide (n := 3)).1 ?_
            refine each.wpIn_each (gf := 56) (lb := comb.eachLb wr.heap.size (wr.heap.size + 1)) rfl (enters_of Try.func56 (by kernel_rfl) rfl) hst (Below.refl _ _) (fun k hk => by rcases hk with rfl | rfl <;> omega) (comb.ArgI.kept 4)
              (fun pre W => New Wl W ∧ ∀ p ∈ pre, okS num pa ct wd L D lo (s0, s1, s2, s3) (asP ke p) = false)
              (fun cd pre W => cd = .ret ∧ ∃ q x, pre = q ++ [x] ∧ (∀ p ∈ q, okS num pa ct wd L D lo (s0, s1, s2, s3) (asP ke p) = false) ∧ okS num pa ct wd L D lo (s0, s1, s2, s3) (asP ke x) = true ∧
                GX w (Wl.heap.size + 2 + 4) n (w.heap.size + 1 + 1 + 1) (w.heap.size + 1 + 1 + 1 + 1) (w.heap.size + 1 + 1 + 1 + 1 + 1) (dtL num pa ct wd L D (lo ++ asP ke x)) (asP ke x) Ds W)
              ?bears ?xbears ?first (fun v => { tmps := #[.int .i64 dr, .int .i64 pa, .int .i64 ad, .int .i64 n, .slice (some ⟨pb, po, none⟩) num c, four s0 s1 s2 s3, undef, undef, undef, .pointer (some ⟨w.heap.size, 0, none⟩), .pointer (some ⟨w.heap.size + 1, 0, none⟩), .pointer (some ⟨w.heap.size + 1 + 1, 0, none⟩), .pointer (some ⟨w.heap.size + 1 + 1 + 1, 0, none⟩), .pointer (some ⟨w.heap.size + 1 + 1 + 1 + 1, 0, none⟩), .pointer (some ⟨w.heap.size + 1 + 1 + 1 + 1 + 1, 0, none⟩), .pointer (some ⟨bb, 0, none⟩), .int .i64 0, .pointer (some ⟨lb, 0, none⟩), .pointer (some ⟨kb, 0, none⟩), u19, u20, .int .i64 k, v, us 23, us 24, us 25, us 26, us 27, .tuple #[.agg #[.slice LA num cl, .int .i64 pa, .int .i64 Lg], .int .i64 0], .int .i64 dr, .int .i64 pa, .int .i64 ad, .int .i64 n, .tuple #[.agg #[.slice LA num cl, .int .i64 pa, .int .i64 Lg], .int .i64 0], .agg #[.slice LA num cl, .int .i64 pa, .int .i64 Lg], .int .i64 0, .int .i64 0, .bool false, undef, .slice (some ⟨pb, po, none⟩) num c, .int .i64 num, .pointer (some ⟨bb, 0, none⟩), .slice LA num cl, .int .i64 num, .bool false, .slice (some ⟨pb, po, none⟩) num c, .int .i64 num, .int .i64 num, .bool false, u49, u50, u51, u52, u53, u54, u55, u56, u57, u58, u59, u60, u61, u62, u63, u64, u65, u66, u67, u68, u69, .slice LA2 lo.length lc, .int .i64 lo.length, .int .i64 pa, .bool false, .int .i64 k, .int .i64 pa, .slice LA2 lo.length lc, .int .i64 lo.length, .int .i64 (pa - lo.length), .bool true, .bool true, .int .i64 k, .slice KA2 ke.length kc, .int .i64 ke.length, .bool true, .bool true, us 86, us 87, .slice KA2 ke.length kc, .int .i64 ke.length, .int .i64 k, .func (.func 56) #[] (comb.eachLb wr.heap.size (wr.heap.size + 1)), v, us 93, us 94, us 95, us 96, us 97, us 98, us 99, us 100, us 101, us 102, us 103, us 104, us 105, us 106, us 107, us 108, us 109, us 110, us 111, us 112, us 113, us 114, us 115, us 116, us 117, us 118, us 119, us 120, us 121, us 122, us 123, us 124, us 125, us 126, us 127], defers := [] }) ?assign ?body ?done ?stop
            case bears =>
              rintro pre A B row ⟨h1, h2⟩ hg hr
              exact ⟨h1.grown hg fun r e => (hr r e).1, h2⟩
            case xbears =>
              rintro cd pre A B row ⟨h1, q, x, h2, h3, h4, h5⟩ hg hr
              exact ⟨h1, q, x, h2, h3, h4, h5.kept hg hr (by omega) (by omega) (by omega) (by omega) hDl.out⟩
            case first => exact ⟨New.refl _, fun p hp => by simp at hp⟩
            case assign =>
              intro l v W K hK
              gi_wp2
              exact hK
            case body =>
              rintro l pre x v W hsz ⟨hnw, hpre0⟩ hpre harg
              have hxm : x ∈ comb.pickL ke.length 0 k := hpre.subset (by simp)
              obtain ⟨hx1, hx2⟩ := pickL_in _ _ _ x hxm
              have hxl := comb.pickL_len _ _ _ x hxm
              have hgood : Hid ((∀ c ∈ lo ++ asP ke x, c < num) ∧ (lo ++ asP ke x).Nodup ∧ (lo ++ asP ke x).length = lo.length + k) := by
                rw [hke.out] at hxm ⊢
                rw [hlo.out]
                exact asP_good hxm
              have hAW := Lib.hid (hAl.out.new hnw)
              obtain ⟨hi, hhi⟩ : ∃ hi, hi = Wl.heap.size + 2 + 4 := ⟨_, rfl⟩
              rw [← hhi] at harg hsz
              unfold comb.ArgI at harg
              rw [encN_numL, hxl] at harg
              obtain ⟨PP, pcc, rfl, hp1, hp2, hPP, _⟩ := own_open harg
              have hPf : Hid ((PP = none ∧ k = 0 ∧ pcc = 0) ∨ ∃ g, PP = some ⟨g, 0, none⟩ ∧ hi ≤ g ∧ g < W.heap.size) := by
                rcases harg.2 with ⟨h0, h1⟩ | ⟨g', cap, cur, h0, hb, hgg, _⟩
                · cases h0
                  exact .inl ⟨rfl, h1, rfl⟩
                · cases h0
                  exact .inr ⟨g', rfl, hb, (harg.lt g' rfl).2⟩
              obtain ⟨g, hg⟩ : ∃ g, Hid (0 < k → PP = some ⟨g, 0, none⟩ ∧ hi ≤ g ∧ RowK 3 .i64 W g k (fun j => x.getD j 0)) := by
                by_cases h0 : 0 < k
                · obtain ⟨g, rfl, hg1, _⟩ := hPP h0
                  exact ⟨g, fun _ => ⟨rfl, hg1, RowK.of_own harg⟩⟩
                · exact ⟨0, fun h => absurd h h0⟩
              obtain ⟨_, kc2, hke2, _, _, hKA3, hKcell⟩ := own_open hAl.out.gl.ok
              cases hke2
              clear harg hPP
              gi_wp2_with fail
              gi_loopw [95] (fun cv wr' => ∃ i : Nat, cv = .int .i64 i ∧ i ≤ k ∧ Hid (Below hi W wr') ∧ Hid (0 < k → RowK 3 .i64 wr' g k (pkF ke x i))) (fun cv _ => k - (intOf cv).toNat)
              case atStart => exact ⟨0, rfl, by omega, Below.refl _ _, fun h => by rw [pkF_zero]; exact (hg.out h).2.2⟩
              case round =>
                obtain ⟨i, rfl, hik, hbel, hrow⟩ := hrel
                have hWn : Hid (New Wl wr) := hnw.trans (hbel.out.mono (by omega))
                have hA2 := Lib.hid (hAl.out.new hWn.out)
                by_cases hlt : i < k
                · obtain ⟨rfl, hgi, _⟩ := hg.out (by omega)
                  have hr := hrow.out (by omega)
                  obtain ⟨xi, hxi⟩ : ∃ xi, Hid (xi = x.getD i 0) := ⟨_, rfl⟩
                  have hxk : xi < ke.length := by
                    rw [hxi.out]
                    have := (hx1 (x.getD i 0) (by simp [List.getD, show i < x.length by omega])).2
                    omega
                  obtain ⟨yi, hyi⟩ : ∃ yi, Hid (yi = ke.getD xi 0) := ⟨_, rfl⟩
                  have c0 : wr.cell? ⟨g, i, none⟩ = some (.int .i64 (xi : Nat)) := by
                    have := hr.cell hlt
                    unfold pkF at this
                    rw [if_neg (Nat.lt_irrefl i), ← hxi.out] at this
                    exact this
                  have f0 := RowK.frz hr i
                  have c1 := hA2.out.gl.bk.cell
                  obtain ⟨kg, rfl, _, hkg⟩ := hKA3 (by omega)
                  have c2 : wr.cell? ⟨kg, xi, none⟩ = some (.int .i64 (yi : Nat)) :=
                    (hWn.out.cell (p := ⟨kg, xi, none⟩) hkg).trans (hKcell kg rfl xi (.int .i64 (yi : Nat)) (by rw [hyi.out]; simp [List.getD, hxk, comb.encN]))
                  have hi0 : (i : Int) < (k : Int) := by omega
                  have hx0 : (xi : Int) < (ke.length : Int) := by omega
                  have hset : Hid (RowK 3 .i64 (wr.setCell ⟨g, i, none⟩ (.int .i64 (yi : Nat))) g k (pkF ke x (i + 1))) := by
                    have h1 := RowK.set hr hlt yi
                    rw [hyi.out, hxi.out] at h1
                    rw [pkF_step] at h1
                    rw [hyi.out, hxi.out]
                    exact h1
                  have hbel2 : Hid (Below hi W (wr.setCell ⟨g, i, none⟩ (.int .i64 (yi : Nat)))) := hbel.out.setCell (p := ⟨g, i, none⟩) hgi _
                  clear hr
                  gi_wp2_with fail
                  go_roundw
                  case rel => exact ⟨i + 1, by go_num, by omega, hbel2, fun _ => hset.out⟩
                  case measure => simp [intOf]; omega
                · have hin : k = i := by omega
                  subst hin
                  have hN6 := hbel.out.size
                  have hlk' : lo.length + k ≤ pa := by omega
                  obtain ⟨bs, hbs⟩ : ∃ bs, Hid (bs = asP ke x) := ⟨_, rfl⟩
                  have hbl : bs.length = k := by rw [hbs.out]; simp [asP, hxl]
                  rw [← hbs.out] at hgood
                  have hPk : Hid (∀ w', New wr w' → (PP = none ∧ k = 0 ∧ pcc = 0) ∨ ∃ b off, PP = some ⟨b, off, none⟩ ∧ ∀ i, i < k → w'.cell? ⟨b, off + i, none⟩ = some (.int .i64 (bs.getD i 0 : Nat))) := fun w' hn => by
                    rcases hPf.out with h | ⟨g', h1, h2, h3⟩
                    · exact .inl h
                    · refine .inr ⟨g', 0, h1, fun i hi' => ?_⟩
                      obtain ⟨e1, e2, _⟩ := hg.out (by omega)
                      have hgg : g = g' := by rw [h1] at e1; cases e1; rfl
                      subst hgg
                      have hr := (hrow.out (by omega)).new hn
                      rw [Nat.zero_add, hr.cell hi', pkF_all ke x k i hxl hi', hbs.out]
                  have hcl : Hid (∀ w', New wr w' → Calls Try.prog 40 #[.slice LA2 lo.length lc] w' fun e w'' => ∃ v', e = .returned v' ∧ w''.ownsRow w'.heap.size 3 1 v' lo.length (lo.map comb.encN) ∧ New w' w'') := fun w' hn =>
                    Clone_own _ lo base w' (own_new hA2.out.gl.ol hn) (by omega)
                  have hda : Hid (∀ w' v base', New wr w' → w'.ownsRow base' 3 1 v (lo.length + k) (lo.map comb.encN ++ bs.map comb.encN) →
                      Calls Try.prog 39 #[.agg #[.slice LA num cl, .int .i64 pa, .int .i64 Lg], .slice (some ⟨pb, po, none⟩) num c, v] w' (dtP ct (dtL num pa ct wd L D (lo ++ bs)) w')) := fun w' v base' hn ho => by
                    have hlen := hgood.out.2.2
                    rw [← List.map_append, encN_numL, hlen] at ho
                    obtain ⟨A, cc, rfl, _, _, hR⟩ := own_numL ho
                    have := data_any LA (some ⟨pb, po, none⟩) A num cl dr pa ad ct wd Lg c cc cb Ls R L C D (lo ++ bs) w' h3 h4 hnH.out h6 hc1 hc2 hn8 hdc hLg.out (own_new hA2.out.col hn) (hPH.out.new (hA2.out.nw.next hn)) (by rw [hlen]; exact hR) hgood.out.1 hgood.out.2.1 (by rw [hlen]; exact hlk')
                    rw [hlen] at this
                    exact this
                  have hld : Hid (∀ w', New wr w' → w'.cell? ⟨bb, 0, none⟩ = some (.slice LA num cl) ∧ w'.cell? ⟨bb, 1, none⟩ = some (.int .i64 pa) ∧ w'.cell? ⟨bb, 2, none⟩ = some (.int .i64 Lg) ∧ w'.cell? ⟨w.heap.size + 1, 0, none⟩ = some (.slice (some ⟨pb, po, none⟩) num c) ∧ w'.cell? ⟨lb, 0, none⟩ = some (.slice LA2 lo.length lc)) := fun w' hn => by
                    have hh := hA2.out.new hn
                    have y0 := hh.bk.cell 0
                    have y1 := hh.bk.cell 1
                    have y2 := hh.bk.cell 2
                    rw [hbcs0.out] at y0 y1 y2
                    simp at y0 y1 y2
                    exact ⟨y0, y1, y2, hh.g0.q1.cell, hh.gl.bl.cell⟩
                  obtain ⟨m0, m1, m2, m3, m4⟩ := hld.out wr (New.refl _)
                  obtain ⟨XL, hXL⟩ : ∃ XL, Hid (XL = dtL num pa ct wd L D (lo ++ bs)) := ⟨_, rfl⟩
                  rw [← hXL.out] at hda
                  have hpre0H := Lib.hid hpre0
                  clear hpre0 hx1 hx2 hxm hpre hrow
                  gi_wp2_with fail
                  refine wpIn_cut (fun a a' w' => ∃ v1 v2 A3 c3, a' = { tmps := (((((((a.tmps.setIfInBounds 108 (.agg #[.slice LA num cl, .int .i64 pa, .int .i64 Lg])).setIfInBounds 109 (.slice (some ⟨pb, po, none⟩) num c)).setIfInBounds 110 (.slice LA2 lo.length lc)).setIfInBounds 111 v1).setIfInBounds 112 (.slice PP k pcc)).setIfInBounds 113 v2).setIfInBounds 114 (.slice A3 (128 * ct) c3)).setIfInBounds 25 (.slice A3 (128 * ct) c3), defers := a.defers } ∧
                    (128 * ct ≤ c3 ∧ c3 ≤ maxLen ∧ RdI .u8 w' A3 (128 * ct) (fun k => (XL.getD k 0 : Nat)) ∧ (∀ a, A3 = some a → wr.heap.size ≤ a.block) ∧ New wr w')) ?reg ?rest
                  case reg =>
                    refine region_round (fun w' => w'.cell? ⟨bb, 0, none⟩ = some (.slice LA num cl) ∧ w'.cell? ⟨bb, 1, none⟩ = some (.int .i64 pa) ∧ w'.cell? ⟨bb, 2, none⟩ = some (.int .i64 Lg) ∧ w'.cell? ⟨w.heap.size + 1, 0, none⟩ = some (.slice (some ⟨pb, po, none⟩) num c) ∧ w'.cell? ⟨lb, 0, none⟩ = some (.slice LA2 lo.length lc))
                      (by kernel_rfl) (by kernel_rfl) (by rintro ⟨a, w', h, _⟩; cases h) (hld.out _ (New.refl wr).drew) (fun hHeld => ?_)
                    refine wpAnyH_take (i := 0) (v := ?_) rfl (by kernel_rfl) (by kernel_rfl) (by kernel_rfl) (fun _ _ _ h => by cases h.1) (Or.inl ⟨by rfl, ?_⟩) hHeld ?_
                    rotate_left
                    · intro w' hSw
                      obtain ⟨y0, y1, y2, y3, y4⟩ := hSw
                      go_simp
                      first | done | with_reducible rfl
                    try simp only [Act.put, List.setIfInBounds_toArray, List.set_cons_zero, List.set_cons_succ]
                    refine wpAnyH_take (i := 1) (v := ?_) rfl (by kernel_rfl) (by kernel_rfl) (by kernel_rfl) (fun _ _ _ h => by cases h.1) (Or.inl ⟨by rfl, ?_⟩) hHeld ?_
                    rotate_left
                    · intro w' hSw
                      obtain ⟨y0, y1, y2, y3, y4⟩ := hSw
                      go_simp
                      first | done | with_reducible rfl
                    try simp only [Act.put]
                    refine wpAnyH_take (i := 2) (v := ?_) rfl (by kernel_rfl) (by kernel_rfl) (by kernel_rfl) (fun _ _ _ h => by cases h.1) (Or.inl ⟨by rfl, ?_⟩) hHeld ?_
                    rotate_left
                    · intro w' hSw
                      obtain ⟨y0, y1, y2, y3, y4⟩ := hSw
                      go_simp
                      first | done | with_reducible rfl
                    try simp only [Act.put]
                    refine wpAnyH_take (i := 4) (v := ?_) rfl (by kernel_rfl) (by kernel_rfl) (by kernel_rfl) (fun _ _ _ h => by cases h.1) (Or.inl ⟨by rfl, ?_⟩) hHeld ?_
                    rotate_left
                    · intro w' hSw
                      obtain ⟨y0, y1, y2, y3, y4⟩ := hSw
                      go_simp
                      first | done | with_reducible rfl
                    try simp only [Act.put]
                    refine wpAnyH_ready (rs := [3]) (by kernel_rfl) (by simp) ?_
                    refine AllReadyH.cons rfl (fun K hK => ?_) AllReadyH.nil
                    rw [if_pos (by rfl)]
                    go_simp
                    go_at_call 40
                    refine (hcl.out _ (New.refl wr).drew).mono ?_
                    rintro e w1 ⟨v1, rfl, hown1, hn1⟩
                    have hN1 : New wr w1 := New.next (New.refl wr).drew hn1
                    obtain ⟨v2, w2, hrun2, hown2, hg2⟩ := append_nums wr.heap.size v1 lo.length (lo.map comb.encN) hown1 PP k pcc bs hbl (hPk.out w1 hN1) (by omega) hN1.size
                    have hN2 : New wr w2 := hN1.grown hg2 (fun r e => (hown1.lt r e).1)
                    refine hK.out _ _ (hld.out w1 hN1) (fun hHeld => ?_)
                    clear hK K
                    try simp only [Act.put, List.setIfInBounds_toArray, List.set_cons_zero, List.set_cons_succ]
                    refine wpAnyH_ready (rs := [5]) (by kernel_rfl) (by simp) ?_
                    refine AllReadyH.cons rfl (fun K hK => ?_) AllReadyH.nil
                    rw [if_pos (by rfl)]
                    refine wp_append_run (.tmp 111) (.tmp 112) 29 rfl v1 (.slice PP k pcc) rfl rfl hrun2 ?_
                    refine hK.out _ _ (hld.out w2 hN2) (fun hHeld => ?_)
                    clear hK K
                    try simp only [Act.put, List.setIfInBounds_toArray]
                    refine wpAnyH_ready (rs := [6]) (by kernel_rfl) (by simp) ?_
                    refine AllReadyH.cons rfl (fun K hK => ?_) AllReadyH.nil
                    rw [if_pos (by rfl)]
                    go_simp
                    go_at_call 39
                    refine (hda.out _ v2 _ hN2 hown2).mono ?_
                    rintro e w3 ⟨⟨A3, c3, rfl, hr3⟩, hn3⟩
                    have hN3 : New wr w3 := hN2.next hn3
                    refine hK.out _ _ (hld.out w3 hN3) (fun hHeld => ?_)
                    clear hK K
                    try simp only [Act.put, List.setIfInBounds_toArray, List.set_cons_zero, List.set_cons_succ]
                    refine wpAnyH_take (i := 7) (v := ?_) rfl (by kernel_rfl) (by kernel_rfl) (by kernel_rfl) (fun _ _ _ h => by cases h.1) (Or.inl ⟨by rfl, ?_⟩) hHeld ?_
                    rotate_left
                    · intro w' hSw
                      go_simp
                      first | done | with_reducible rfl
                    try simp only [Act.put, List.setIfInBounds_toArray]
                    refine wpAnyH_done (by kernel_rfl) ?_ _
                    refine ⟨rfl, v1, v2, A3, c3, ?_, hr3.1, hr3.2.1, hr3.2.2.1, fun a ha => Nat.le_trans hN2.size (hr3.2.2.2 a ha), hN3⟩
                    rfl
                  case rest =>
                    rintro a' w3 ⟨v1, v2, A3, c3, rfl, r1, r2, r3, r4, hN3⟩
                    simp only [List.setIfInBounds_toArray, List.set_cons_zero, List.set_cons_succ]
                    have hof : Hid (Calls Try.prog 41 #[.slice A3 (128 * ct) c3] w3 fun e w' => e = .returned (.tuple #[fourT (sums (fun k => XL.getD k 0) (128 * ct / 4) (0, 0, 0, 0)), .int .i64 0]) ∧ New w3 w') := by
                      refine Of_ok A3 (128 * ct) c3 (fun k => XL.getD k 0) w3 ⟨r3.1, fun i hi => ?_, r3.2⟩ r1 (by omega)
                      have hall : ∀ y ∈ XL, y < 256 := by
                        rw [hXL.out]
                        exact catL_lt (fun i k => rbF_lt _ _ _ _ _ _) _ _
                      show XL.getD i 0 < 256
                      rcases Nat.lt_or_ge i XL.length with h | h
                      · rw [show XL.getD i 0 = XL[i] by simp [List.getD, h]]
                        exact hall _ (List.getElem_mem h)
                      · rw [show XL.getD i 0 = 0 by simp [List.getD, h]]
                        omega
                    have hr3 := Lib.hid (And.intro r1 (And.intro r2 (And.intro r3 r4)))
                    obtain ⟨sm, hsm⟩ : ∃ sm, Hid (sm = sums (fun k => XL.getD k 0) (128 * ct / 4) (0, 0, 0, 0)) := ⟨_, rfl⟩
                    rw [← hsm.out] at hof
                    obtain ⟨t0, t1, t2, t3⟩ := sm
                    have hok : okS num pa ct wd L D lo (s0, s1, s2, s3) bs = decide ((t0, t1, t2, t3) = (s0, s1, s2, s3)) := by unfold okS; rw [← hXL.out, hsm.out]
                    clear m0 m1 m2 m3 m4 r1 r2 r3 r4
                    gi_wp2_with fail
                    refine ⟨trivial, (CallsIn.inRound l (callsIn_wide.2 hof.out)).mono ?_⟩
                    rintro e w4 ⟨rfl, hn4⟩
                    have hN4 := hN3.next hn4
                    have hA4 := Lib.hid (hA2.out.new hN4)
                    obtain ⟨W5, hW5⟩ : ∃ W5, W5 = w4.alloc (.cells #[.int .i64 t0, .int .i64 t1, .int .i64 t2, .int .i64 t3] 38) := ⟨_, rfl⟩
                    have hN5 : New wr W5 := by rw [hW5]; exact hN4.alloc _
                    have hA5 := hA2.out.new hN5
                    have hnw5 : Hid (New w W5) := hA5.nw
                    have u0 := hA5.g0.q2.cell 0
                    have u1 := hA5.g0.q2.cell 1
                    have u2 := hA5.g0.q2.cell 2
                    have u3 := hA5.g0.q2.cell 3
                    have v0 := hA5.g0.q0.cell
                    have v3 := hA5.g0.q3.cell
                    have v4 := hA5.g0.q4.cell
                    have v5 := hA5.g0.q5.cell
                    have z3 := hA5.g0.q3.frozen
                    have z4 := hA5.g0.q4.frozen
                    have z5 := hA5.g0.q5.frozen
                    have bxs := Lib.hid (And.intro hA5.g0.q3 (And.intro hA5.g0.q4 hA5.g0.q5))
                    simp at u0 u1 u2 u3
                    have hB5 : Hid (Below hi W W5) := hbel.out.trans (hN5.mono (by omega))
                    have hT5 : Hid (Taken w.heap.size Ds W5) := hTl.out.new (hWn.out.next hN5)
                    have hP5 : Hid (RdI .i64 W5 PP k (atZ bs)) := by
                      refine ⟨by unfold maxLen; omega, fun h0 => ?_⟩
                      rcases hPk.out W5 hN5 with ⟨_, h1, _⟩ | ⟨b, off, h1, h2⟩
                      · omega
                      · obtain ⟨e1, e2, e3⟩ := hg.out h0
                        rw [e1] at h1
                        cases h1
                        exact ⟨g, 0, e1, Nat.lt_of_lt_of_le e3.lt (Nat.le_trans hbel.out.size hN5.size), h2⟩
                    have hX5 : Hid (RdI .u8 W5 A3 (128 * ct) (fun k => (XL.getD k 0 : Nat))) := by
                      have : New w3 W5 := by rw [hW5]; exact hn4.alloc _
                      exact hr3.out.2.2.1.new this
                    rw [hW5] at u0 u1 u2 u3 v0 v3 v4 v5 z3 z4 z5
                    clear hA5
                    by_cases heq : (s0, s1, s2, s3) = (t0, t1, t2, t3)
                    · have hokx : okS num pa ct wd L D lo (s0, s1, s2, s3) bs = true := by rw [hok]; exact decide_eq_true heq.symm
                      simp only [Prod.mk.injEq] at heq
                      obtain ⟨rfl, rfl, rfl, rfl⟩ := heq
                      have hn0i : (0 : Int) ≤ (n : Int) := by omega
                      have hnc : (n : Int) ≤ (c3 : Int) := by have := hr3.out.1; omega
                      have hokH := Lib.hid hokx
                      have hR4 := Lib.hid hr3.out.2.2.2
                      have hPa : Hid (∀ a, PP = some a → hi ≤ a.block) := fun a ha => by
                        rcases hPf.out with ⟨h1, _⟩ | ⟨g', h1, h2, _⟩
                        · rw [h1] at ha; cases ha
                        · rw [h1] at ha; cases ha; exact h2
                      have hfin : Hid (∀ W6, W6 = (((W5.setCell ⟨w.heap.size + 1 + 1 + 1, 0, none⟩ (.slice A3 n n)).setCell ⟨w.heap.size + 1 + 1 + 1 + 1, 0, none⟩ (.slice PP k pcc)).setCell ⟨w.heap.size + 1 + 1 + 1 + 1 + 1, 0, none⟩ (.int .i64 0)) →
                          each.Held (comb.Kn (Wl.heap.size - 2) (Wl.heap.size - 2 + 1)) Wl.heap.size (Wl.heap.size + 2 + 4) W W6 ∧ GX w (Wl.heap.size + 2 + 4) n (w.heap.size + 1 + 1 + 1) (w.heap.size + 1 + 1 + 1 + 1) (w.heap.size + 1 + 1 + 1 + 1 + 1) XL bs Ds W6) := fun W6 hW6 => by
                        obtain ⟨y3, y4, y5⟩ := bxs.out
                        have g1 := set_grown W5 (w.heap.size + 1 + 1 + 1) (.slice A3 n n)
                        have g2 := set_grown (W5.setCell ⟨w.heap.size + 1 + 1 + 1, 0, none⟩ (.slice A3 n n)) (w.heap.size + 1 + 1 + 1 + 1) (.slice PP k pcc)
                        have g3 := set_grown ((W5.setCell ⟨w.heap.size + 1 + 1 + 1, 0, none⟩ (.slice A3 n n)).setCell ⟨w.heap.size + 1 + 1 + 1 + 1, 0, none⟩ (.slice PP k pcc)) (w.heap.size + 1 + 1 + 1 + 1 + 1) (.int .i64 0)
                        rw [← hW6] at g3
                        have hd : ∀ {b : Nat} {t : TypeId} {v : Value}, Boxed W5 b t v → ∀ D ∈ Ds, some D ≠ some b := fun {b t v} hb D hD e => by
                          cases e
                          have h1 := (hT5.out.2 b hD).2
                          rw [hb] at h1
                          cases h1
                        have hlw := hbel.out.size
                        refine ⟨(((each.Held.below hB5.out (fun k hk => by rcases hk with rfl | rfl <;> omega) (by omega)).trans (each.Held.grown g1 fun r e => ?_)).trans (each.Held.grown g2 fun r e => ?_)).trans (each.Held.grown g3 fun r e => ?_), ?_⟩
                        · cases e; exact ⟨fun h => by rcases h with h | h <;> omega, by omega⟩
                        · cases e; exact ⟨fun h => by rcases h with h | h <;> omega, by omega⟩
                        · cases e; exact ⟨fun h => by rcases h with h | h <;> omega, by omega⟩
                        · have hXn : RdI .u8 W5 A3 n (fun k => (XL.getD k 0 : Nat)) := ⟨by unfold maxLen; omega, fun h0 => by
                            obtain ⟨b, off, k1, k2, k3⟩ := hX5.out.2 (by omega)
                            exact ⟨b, off, k1, k2, fun i hi' => k3 i (by omega)⟩⟩
                          have hz := hlw
                          refine ⟨?_, ((hT5.out.grown g1 (hd y3)).grown g2 (hd y4)).grown g3 (hd y5), ⟨A3, n, ((y3.set _).kept g2 (fun e => by injection e; omega)).kept g3 (fun e => by injection e; omega), ?_, fun a ha => by have := hR4.out a ha; omega⟩, ⟨PP, pcc, ?_, ?_, fun a ha => by have := hPa.out a ha; omega⟩, ?_⟩
                          · rw [hW6]
                            exact ((hnw5.out.set (by show w.heap.size ≤ w.heap.size + 1 + 1 + 1; omega) _).set (by show w.heap.size ≤ w.heap.size + 1 + 1 + 1 + 1; omega) _).set (by show w.heap.size ≤ w.heap.size + 1 + 1 + 1 + 1 + 1; omega) _
                          · exact rdI_kept (rdI_kept (rdI_kept hXn g1 hR4.out fun r e => by cases e; omega) g2 hR4.out fun r e => by cases e; omega) g3 hR4.out fun r e => by cases e; omega
                          · rw [hbl]
                            exact ((y4.kept g1 (fun e => by injection e; omega)).set _).kept g3 (fun e => by injection e; omega)
                          · rw [hbl]
                            exact rdI_kept (rdI_kept (rdI_kept hP5.out g1 hPa.out fun r e => by cases e; omega) g2 hPa.out fun r e => by cases e; omega) g3 hPa.out fun r e => by cases e; omega
                          · rw [hW6]
                            exact ((y5.kept g1 (fun e => by injection e; omega)).kept g2 (fun e => by injection e; omega)).set _
                      clear hok hokx bxs
                      gi_wp2_with fail
                      rw [← hW5]
                      obtain ⟨q1, q2⟩ := hfin.out _ rfl
                      rw [hXL.out, hbs.out] at q2
                      rw [hbs.out] at hokH
                      exact ⟨hKn.out _ _ _ _ q1, rfl, pre, x, rfl, hpre0H.out, hokH.out, q2⟩
                    · have hokx : okS num pa ct wd L D lo (s0, s1, s2, s3) bs = false := by rw [hok]; exact decide_eq_false (fun h => heq h.symm)
                      have hokH := Lib.hid hokx
                      clear hok hokx
                      simp only [Prod.mk.injEq] at heq
                      have hneg : Hid (each.Held (comb.Kn (Wl.heap.size - 2) (Wl.heap.size - 2 + 1)) Wl.heap.size (Wl.heap.size + 2 + 4) W W5 ∧ New Wl W5 ∧ ∀ p ∈ pre ++ [x], okS num pa ct wd L D lo (s0, s1, s2, s3) (asP ke p) = false) := by
                        refine ⟨each.Held.below hB5.out (fun k hk => by rcases hk with rfl | rfl <;> omega) (by omega), hWn.out.next hN5, fun p hp => ?_⟩
                        rcases List.mem_append.1 hp with h | h
                        · exact hpre0H.out p h
                        · simp at h
                          subst h
                          rw [← hbs.out]
                          exact hokH.out
                      rw [hW5] at hneg
                      gi_wp2_with fail
                      all_goals (subst_vars; exact ⟨hKn.out _ _ _ _ hneg.out.1, hneg.out.2⟩)
            case done =>
              rintro W ⟨hnw, hall⟩ hD
              have hnx : Hid ((allC ke (k + 1)).find? (okS num pa ct wd L D lo (s0, s1, s2, s3)) = none) := allC_none hnone.out hall
              have hA1 := Lib.hid (hAl.out.new hnw)
              have hT1 : Hid (Taken w.heap.size (Wl.heap.size :: Ds) W) := (hTl.out.new hnw).cons hD (by omega) (fun h => by have := hDl.out _ h; omega)
              have hkp : k + 1 ≤ pa - lo.length + 1 := by omega
              dsimp only
              go_wp2_with fail
              refine ⟨⟨_, k + 1, Wl.heap.size :: Ds, _, rfl, ⟨rfl, hkp, by omega, hnx, hA1, hT1⟩, rfl⟩, ?_⟩
              simp [intOf]
              omega
            case stop =>
              rintro cd pre W hpre ⟨rfl, q, x, rfl, h2, h3, h4⟩ hD
              obtain ⟨t, ht⟩ := hpre
              have hfnd : Hid (fndS num pa ct wd Ls L D (s0, s1, s2, s3) = some (asP ke x)) := by
                show _ = _
                unfold fndS
                rw [← hlo.out, ← hke.out]
                exact allC_hit hnone.out ht.symm h2 h3 (by omega)
              have hTk := Lib.hid (h4.tk.cons hD (by omega) (fun h => by have := hDl.out _ h; omega))
              obtain ⟨A, cA, a1, a2, a3⟩ := h4.x3
              obtain ⟨B, cB, d1, d2, d3⟩ := h4.x4
              have d5 := h4.x5
              have hz : w.heap.size ≤ W.heap.size := h4.nw.size
              have hfin : Hid (∀ w', Sames w.heap.size W w' → New w w' ∧ RdI .u8 w' A n (fun k => ((dtL num pa ct wd L D (lo ++ asP ke x)).getD k 0 : Nat)) ∧ RdI .i64 w' B (asP ke x).length (atZ (asP ke x)) ∧ w'.cell? ⟨w.heap.size + 1 + 1 + 1, 0, none⟩ = some (.slice A n cA) ∧ w'.cell? ⟨w.heap.size + 1 + 1 + 1 + 1, 0, none⟩ = some (.slice B (asP ke x).length cB) ∧ w'.cell? ⟨w.heap.size + 1 + 1 + 1 + 1 + 1, 0, none⟩ = some (.int .i64 0)) := fun w' hs =>
                ⟨h4.nw.trans hs.1, hs.rdI a2, hs.rdI d2, hs.cell a1.cell, hs.cell d1.cell, hs.cell d5.cell⟩
              clear h4 a1 a2 a3 d1 d2 d3 d5 hst hbn hbk hnl
              refine wpIn_wide.2 ?_
              dsimp only
              go_wp2_with fail
              refine leaves_marks (Wl.heap.size :: Ds) _ hz hTk.out fun w' hs => ?_
              obtain ⟨g1, r1, r2, g3, g4, g5⟩ := hfin.out w' hs
              exact ⟨.tuple #[.slice A n cA, .slice B (asP ke x).length cB, .int .i64 0], by simp [results, Try.results18, go_sem, g3, g4, g5], by unfold GaS; rw [hbad.out, if_neg (by simp), ← hlo.out, if_neg hgt, hfnd.out]; exact ⟨⟨A, cA, B, cB, rfl, r1, r2⟩, g1⟩⟩
          · have hK : (allC ke (pa - lo.length + 1)).find? (okS num pa ct wd L D lo (s0, s1, s2, s3)) = none := by
              by_cases h1 : k = pa - lo.length + 1
              · rw [← h1]; exact hnone.out
              · have h2 : k = ke.length + 1 := by omega
                have h3 := allC_short (kept := ke) (K := k) (by omega) (pa - lo.length + 1 - k)
                rw [show k + (pa - lo.length + 1 - k) = pa - lo.length + 1 by omega] at h3
                rw [h3]
                exact hnone.out
            have hfnd : Hid (fndS num pa ct wd Ls L D (s0, s1, s2, s3) = none) := by show _ = _; unfold fndS; rw [← hlo.out, ← hke.out]; exact hK
            have c3 := hA.out.g0.q3.cell
            have f3 := hA.out.g0.q3.frozen
            have c4 := hA.out.g0.q4.cell
            have f4 := hA.out.g0.q4.frozen
            have c5 := hA.out.g0.q5.cell
            have f5 := hA.out.g0.q5.frozen
            have x3 := hA.out.g0.q3
            have x4 := hA.out.g0.q4
            have x5 := hA.out.g0.q5
            have hz5 := hA.out.g0.q5.lt
            have hNr := Lib.hid hA.out.nw
            have hTr := Lib.hid hT.out
            have hxx := Lib.hid (And.intro x3 (And.intro x4 x5))
            clear x3 x4 x5
            generalize hb5 : w.heap.size + 1 + 1 + 1 + 1 + 1 = b5 at c5 f5 hz5 hxx ⊢
            generalize hb4 : w.heap.size + 1 + 1 + 1 + 1 = b4 at c4 f4 hxx ⊢
            generalize hb3 : w.heap.size + 1 + 1 + 1 = b3 at c3 f3 hxx ⊢
            have n1 : b3 ≠ b4 := by omega
            have n2 : b3 ≠ b5 := by omega
            have n3 : b4 ≠ b5 := by omega
            have m1 : b4 ≠ b3 := by omega
            have m2 : b5 ≠ b3 := by omega
            have m3 : b5 ≠ b4 := by omega
            have hB3 : w.heap.size ≤ b3 := by omega
            have hB4 : w.heap.size ≤ b4 := by omega
            have hB5 : w.heap.size ≤ b5 := by omega
            have z3 : b3 < wr.heap.size := by omega
            have z4 : b4 < wr.heap.size := by omega
            clear hb3 hb4 hb5
            have hfin : Hid (∀ w', Sames w.heap.size (((wr.setCell ⟨b3, 0, none⟩ (.slice none 0 0)).setCell ⟨b4, 0, none⟩ (.slice none 0 0)).setCell ⟨b5, 0, none⟩ (.int .i64 11)) w' → New w w' ∧ w'.cell? ⟨b3, 0, none⟩ = some (.slice none 0 0) ∧ w'.cell? ⟨b4, 0, none⟩ = some (.slice none 0 0) ∧ w'.cell? ⟨b5, 0, none⟩ = some (.int .i64 11)) := fun w' hs => by
              obtain ⟨y3, y4, y5⟩ := hxx.out
              have k3 : Boxed (((wr.setCell ⟨b3, 0, none⟩ (.slice none 0 0)).setCell ⟨b4, 0, none⟩ (.slice none 0 0)).setCell ⟨b5, 0, none⟩ (.int .i64 11)) b3 32 (.slice none 0 0) := ((y3.set _).kept (set_grown _ _ _) (by simp [n1])).kept (set_grown _ _ _) (by simp [n2])
              have k4 : Boxed (((wr.setCell ⟨b3, 0, none⟩ (.slice none 0 0)).setCell ⟨b4, 0, none⟩ (.slice none 0 0)).setCell ⟨b5, 0, none⟩ (.int .i64 11)) b4 29 (.slice none 0 0) := ((y4.kept (set_grown _ _ _) (by simp [m1])).set _).kept (set_grown _ _ _) (by simp [n3])
              have k5 : Boxed (((wr.setCell ⟨b3, 0, none⟩ (.slice none 0 0)).setCell ⟨b4, 0, none⟩ (.slice none 0 0)).setCell ⟨b5, 0, none⟩ (.int .i64 11)) b5 24 (.int .i64 11) := ((y5.kept (set_grown _ _ _) (by simp [m2])).kept (set_grown _ _ _) (by simp [m3])).set _
              exact ⟨(((hNr.out.set hB3 _).set hB4 _).set hB5 _).trans hs.1, hs.cell k3.cell, hs.cell k4.cell, hs.cell k5.cell⟩
            have hTf : Hid (Taken w.heap.size Ds (((wr.setCell ⟨b3, 0, none⟩ (.slice none 0 0)).setCell ⟨b4, 0, none⟩ (.slice none 0 0)).setCell ⟨b5, 0, none⟩ (.int .i64 11))) := by
              obtain ⟨y3, y4, y5⟩ := hxx.out
              have hd : ∀ {b : Nat} {t : TypeId} {v : Value}, Boxed wr b t v → ∀ D ∈ Ds, some D ≠ some b := fun {b t v} hb D hD e => by
                cases e
                have h1 := (hTr.out.2 b hD).2
                rw [hb] at h1
                cases h1
              exact ((hTr.out.grown (set_grown _ _ _) (hd y3)).grown (set_grown _ _ _) (hd y4)).grown (set_grown _ _ _) (hd y5)
            have hzf : Hid (w.heap.size ≤ (((wr.setCell ⟨b3, 0, none⟩ (.slice none 0 0)).setCell ⟨b4, 0, none⟩ (.slice none 0 0)).setCell ⟨b5, 0, none⟩ (.int .i64 11)).heap.size) := by show _ ≤ _; simp; omega
            clear hxx hNr hTr hKA hLA hA hT
            by_cases h1 : k ≤ pa - lo.length
            · have h2 : ¬ (k : Int) ≤ (ke.length : Int) := by omega
              have h3 : (k : Int) ≤ (pa : Int) - (lo.length : Int) := by omega
              clear hc
              go_wp2_with fail
              refine leaves_marks Ds _ hzf.out hTf.out fun w' hs => ?_
              obtain ⟨g1, g3, g4, g5⟩ := hfin.out w' hs
              exact ⟨.tuple #[.slice none 0 0, .slice none 0 0, .int .i64 11], by simp [results, Try.results18, go_sem, *], by unfold GaS; rw [hbad.out, if_neg (by simp), ← hlo.out, if_neg hgt, hfnd.out]; exact GaP.no rfl g1⟩
            · have h3 : ¬ (k : Int) ≤ (pa : Int) - (lo.length : Int) := by omega
              clear hc
              go_wp2_with fail
              refine leaves_marks Ds _ hzf.out hTf.out fun w' hs => ?_
              obtain ⟨g1, g3, g4, g5⟩ := hfin.out w' hs
              exact ⟨.tuple #[.slice none 0 0, .slice none 0 0, .int .i64 11], by simp [results, Try.results18, go_sem, *], by unfold GaS; rw [hbad.out, if_neg (by simp), ← hlo.out, if_neg hgt, hfnd.out]; exact GaP.no rfl g1⟩
end Go.Proofs.Ytjmjnodaohbpfaa.stripe
