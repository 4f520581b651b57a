/-
  Contract of the reference's ToldRead.
-/
import Derived.Test.YtaommipcdcncnaaDoorDeskHear
import Derived.Test.YtaommipcdcncnaaDoorDeskUnhexa
import Derived.Test.YtaommipcdcncnaaDoorDeskNames
import Derived.Deep.DeepCutAuto
import Derived.Deep.CutBlock
namespace Go.Proofs.YtaommipcdcncnaaDoor.desk
open Go.ChangeShapes Go.WideShapes Go.ChangeAt Go.RowKit Go.Proofs.YtaommipcdcncnaaDoor.kit Go.Deep
set_option linter.unusedVariables false
set_option maxRecDepth 100000
/-- the first words of a line, as the reference takes them: the size stands at o -/
def Head (P : List Tx) (o : Nat) (code : Int) : Prop := (o = 1 ∧ code = 0 ∧ P.getD 0 [] = okT) ∨ (o = 2 ∧ 1 ≤ code ∧ code ≤ 9223372036854775807 ∧ P.getD 0 [] = noT ∧ P.getD 1 [] = Lib.itoa code)
theorem head_shape {line : Tx} {P : List Tx} {o : Nat} {code code' size' : Int} {dn' : Bool} {f' : Nat → Nat} {n' : Nat} {l' : List Nm} (hP : P = cutT line) (hH : Head P o code) (hb : badT code' size' l' = false) (hf : ∀ i, f' i < 256) (hl : lineT code' size' dn' f' n' l' = line) :
    o + 2 ≤ P.length ∧ P.getD o [] = Lib.itoa size' ∧ P.getD (o + 1) [] = hexT f' n' ∧ P.drop (o + 2) = restT dn' l' := by
  rcases told_shape hb hf hl with ⟨_, e⟩ | ⟨_, e⟩
  · rw [← hP] at e
    rcases hH with ⟨rfl, _, h0⟩ | ⟨_, _, _, h0, _⟩
    · rw [e]
      exact ⟨by simp, rfl, rfl, rfl⟩
    · rw [e] at h0
      exact absurd h0 (by show ¬ okT = noT; decide)
  · rw [← hP] at e
    rcases hH with ⟨_, _, h0⟩ | ⟨rfl, _, _, h0, _⟩
    · rw [e] at h0
      exact absurd h0 (by show ¬ noT = okT; decide)
    · rw [e]
      exact ⟨by simp, rfl, rfl, rfl⟩
theorem head_line {line : Tx} {P : List Tx} {o : Nat} {code size : Int} {dn : Bool} {f : Nat → Nat} {n : Nat} {l : List Nm} (hP : P = cutT line) (hH : Head P o code) (hlen : o + 2 ≤ P.length) (h1 : P.getD o [] = Lib.itoa size) (h2 : P.getD (o + 1) [] = hexT f n) (h3 : P.drop (o + 2) = restT dn l) : lineT code size dn f n l = line := by
  refine told_line ?_
  rw [← hP]
  have hd : ∀ i, i < P.length → P.drop i = P.getD i [] :: P.drop (i + 1) := fun i hi => by
    rw [List.drop_eq_getElem_cons hi, List.getD, List.getElem?_eq_getElem hi]
    rfl
  rcases hH with ⟨rfl, hc, h0⟩ | ⟨rfl, hc, _, h0, hc2⟩
  · rw [words_zero hc, ← h1, ← h2, ← h3, ← h0, ← hd 2 (by omega), ← hd 1 (by omega), ← hd 0 (by omega), List.drop_zero]
  · rw [words_code (by omega), ← h1, ← h2, ← h3, ← h0, ← hc2, ← hd 3 (by omega), ← hd 2 (by omega), ← hd 1 (by omega), ← hd 0 (by omega), List.drop_zero]
theorem head_zero {line : Tx} {P : List Tx} (hP : P = cutT line) (h : P.getD 0 [] ≠ okT ∧ P.getD 0 [] ≠ noT) : NoTold line := fun c s d f n l hb _ _ hf hl => by
  rcases told_shape hb hf hl with ⟨_, e⟩ | ⟨_, e⟩
  · rw [← hP] at e
    exact h.1 (by rw [e]; rfl)
  · rw [← hP] at e
    exact h.2 (by rw [e]; rfl)
theorem head_no {line : Tx} {P : List Tx} (hP : P = cutT line) (h0 : P.getD 0 [] = noT) (h : ∀ c : Int, 1 ≤ c → c ≤ 9223372036854775807 → 2 ≤ P.length → P.getD 1 [] ≠ Lib.itoa c) : NoTold line := fun c s d f n l hb hc _ hf hl => by
  rcases told_shape hb hf hl with ⟨_, e⟩ | ⟨h1, e⟩
  · rw [← hP] at e
    rw [e] at h0
    exact absurd h0 (by show ¬ okT = noT; decide)
  · rw [← hP] at e
    exact h c h1 hc (by rw [e]; simp) (by rw [e]; rfl)
theorem head_none {line : Tx} {P : List Tx} {o : Nat} {code : Int} (hP : P = cutT line) (hH : Head P o code) (h : ∀ (size' : Int) (dn' : Bool) (f' : Nat → Nat) (n' : Nat) (l' : List Nm), 0 ≤ size' → size' ≤ 9223372036854775807 → (∀ i, f' i < 256) → l'.any oddN = false → o + 2 ≤ P.length → P.getD o [] = Lib.itoa size' → P.getD (o + 1) [] = hexT f' n' → P.drop (o + 2) ≠ restT dn' l') : NoTold line := fun c s d f n l hb _ hs hf hl => by
  obtain ⟨h1, h2, h3, h4⟩ := head_shape hP hH hb hf hl
  obtain ⟨_, b2, b3⟩ := bad_not hb
  exact h s d f n l b2 hs hf b3 h1 h2 h3 h4
theorem rest_at {dn : Bool} {l : List Nm} (hl : l.any oddN = false) {i : Nat} {q : Tx} (h : (restT dn l)[i]? = some q) : (i = 0 ∧ q = doneT) ∨ oddN q = false := by
  unfold restT at h
  cases dn with
  | false =>
    refine .inr ?_
    have : l[i]? = some q := by simpa using h
    have := List.any_eq_false.1 hl q (List.mem_of_getElem? this)
    simpa using this
  | true =>
    cases i with
    | zero =>
      left
      have : doneT = q := by simpa using h
      exact ⟨rfl, this.symm⟩
    | succ i =>
      refine .inr ?_
      have : l[i]? = some q := by simpa using h
      have := List.any_eq_false.1 hl q (List.mem_of_getElem? this)
      simpa using this
/-- how far the rest of the words has been read -/
def Got (R : List Tx) (i : Nat) (dn : Bool) (acc : List Nm) : Prop := R.take i = restT dn acc ∧ acc.any oddN = false
theorem Got.start (R : List Tx) : Got R 0 false [] := ⟨by simp [restT], rfl⟩
theorem Got.done {R : List Tx} {dn : Bool} {acc : List Nm} (h : Got R 0 dn acc) (hq : R[0]? = some doneT) : Got R 1 true acc ∧ dn = false ∧ acc = [] := by
  have h1 := h.1
  rw [List.take_zero] at h1
  unfold restT at h1
  have h2 := List.append_eq_nil_iff.1 h1.symm
  cases dn with
  | true => simp at h2
  | false =>
    obtain rfl := h2.2
    refine ⟨⟨?_, rfl⟩, rfl, rfl⟩
    rw [List.take_add_one, hq]
    simp [restT]
theorem Got.more {R : List Tx} {i : Nat} {dn : Bool} {acc : List Nm} (h : Got R i dn acc) {q : Tx} (hq : R[i]? = some q) (ho : oddN q = false) : Got R (i + 1) dn (acc ++ [q]) := by
  refine ⟨?_, by rw [List.any_append, h.2]; simp [ho]⟩
  rw [List.take_add_one, hq, h.1]
  simp [restT]
theorem Got.len {R : List Tx} {i : Nat} {dn : Bool} {acc : List Nm} (h : Got R i dn acc) : acc.length ≤ i := by
  have h1 := congrArg List.length h.1
  rw [List.length_take] at h1
  unfold restT at h1
  rw [List.length_append] at h1
  omega
theorem sl_tail2 (H o m c j : Nat) (h : j ≤ m) (hmc : m ≤ c) : ∃ o', (∀ w', (Instr.slice 24 (.slice (some ⟨H, o, none⟩) m c) (some (.int .i64 (j : Nat))) none none).run Tryd.prog w' = .ok (.slice (some ⟨H, o', none⟩) (m - j) (c - j)) w') ∧ (j < m → o' = o + j) := by
  have he : Tryd.prog.elem 24 = 9 := by kernel_rfl
  have hs : ∀ w', (sizeOf 9).run Tryd.prog w' = .ok 1 w' := fun w' => Tryd.sizeOf9 w'
  refine ⟨if c = j then o else o + j, fun w' => ?_, fun h => by rw [if_neg (by omega)]⟩
  rw [run_slice_l (P := Tryd.prog) (w := w') 24 (some ⟨H, o, none⟩) m c (by rw [he]; exact Tryd.underlying24) .i64 (j : Nat) (by omega) (by omega), he, hs w']
  simp only [Result.andThen, sliced, Int.toNat_natCast]
  split
  · rfl
  · simp [Addr.add]
theorem alt_rdI {w w' : World} {A : Option Addr} {n : Nat} {Z : Nat → Int} {T : Nat} (h : RdI .u8 w A n Z) (ha : Alt (fun g => g = T) w w') (hT : ∀ b off, A = some ⟨b, off, none⟩ → b ≠ T) : RdI .u8 w' A n Z := by
  refine ⟨h.1, fun h0 => ?_⟩
  obtain ⟨b, off, hA, hb, hc⟩ := h.2 h0
  exact ⟨b, off, hA, Nat.lt_of_lt_of_le hb ha.size, fun i hi => ha.cell (hc i hi) (hT b off hA)⟩
/-- after the first words -/
def TPos (WB : World) (T : Nat) (P : List Tx) (p : Value) (wx : World) : Prop := ∃ o code, p = .int .i64 (o : Nat) ∧ o ≤ 2 ∧ Blk wx T 26 (tdA code false 0 none 0 0 none 0 0) ∧ Head P o code ∧ New WB wx
set_option maxHeartbeats 2000000 in
theorem Heard_any (line : Tx) (hl : line.length ≤ 1048576) (w : World) :
    Calls Tryd.prog 15 #[encStr line] w (HrR line w) := by
  obtain ⟨P, hP⟩ : ∃ P, Hid (P = cutT line) := ⟨_, rfl⟩
  obtain ⟨n, hn⟩ : ∃ n, Hid (n = P.length) := ⟨_, rfl⟩
  have hn0 : 0 < n := by
    obtain ⟨p0, pt, hcut, _⟩ := cut_join line
    rw [hn.out, hP.out, hcut]
    simp
  have hnm : n ≤ 1048577 := by
    rw [hn.out, hP.out]
    have := cut_len_le line
    omega
  have hPl : Hid (∀ i, (P.getD i []).length ≤ 1048576) := by
    intro i
    by_cases hi : i < P.length
    · have : P.getD i [] ∈ cutT line := by rw [← hP.out]; exact getD_mem hi
      exact Nat.le_trans (cut_mem_len line _ this) hl
    · rw [List.getD, List.getElem?_eq_none (by omega)]
      exact Nat.zero_le _
  have hS : Hid (∀ w', Calls Tryd.prog 33 #[encStr line] w' fun e w'' => ∃ H c, e = .returned (.slice (some ⟨H, 0, none⟩) n c) ∧ (w''.ownsRow w'.heap.size 9 1 (.slice (some ⟨H, 0, none⟩) n c) n (P.map encStr) ∧ n ≤ c) ∧ New w' w'') := fun w' => by
    refine (pieces_any line hl w').mono ?_
    rintro e w'' ⟨v, rfl, ho, hn'⟩
    rw [← hP.out, ← hn.out] at ho
    rcases ho.2 with ⟨h0, h1⟩ | ⟨g', cap, cur, h0, _, _, hcap, _⟩
    · omega
    · subst h0
      exact ⟨g', cap, rfl, ⟨ho, hcap⟩, hn'⟩
  have hlH := Lib.hid hl
  obtain ⟨W1, hW1⟩ : ∃ W1, W1 = w.alloc (.cells #[.int .i64 0, .bool false, .int .i64 0, .slice none 0 0, .slice none 0 0] 26) := ⟨_, rfl⟩
  have hN1 : Hid (New w W1) := by show New _ _; rw [hW1]; exact (New.refl w).alloc _
  have hb1 : Hid (Blk W1 w.heap.size 26 tdZ) := by show Blk _ _ _ _; rw [hW1]; exact Blk.fresh _ _ _
  obtain ⟨v, hv⟩ : ∃ v, Hid (v = encStr line) := ⟨_, rfl⟩
  rw [← hv.out] at hS ⊢
  clear hl
  go_enter Tryd.func15, Tryd.ntmps15
  go_upto_region 1 with fail
  rw [← hW1]
  clear hW1
  go_upto_region 2 with (go_at_call 33; refine (hS.out _).mono ?_; rintro e WB ⟨H, c, rfl, ⟨ho2, hnc⟩, hn2⟩; have ho2 := Lib.hid ho2; have hn2 := Lib.hid hn2; have hnc := Lib.hid hnc)
  have hHc : Hid (∀ i, i < n → WB.cell? ⟨H, i, none⟩ = some (encStr (P.getD i []))) := fun i hi => by
    have h := World.ownsRow.cells ho2.out (g := H) rfl i (encStr (P.getD i [])) (by
      have hi2 : i < P.length := by rw [← hn.out]; exact hi
      simp [List.getD, hi2])
    rw [add_cell, Nat.zero_add] at h
    exact h
  have hNB := Lib.hid (hN1.out.next hn2.out)
  have hbB := Lib.hid (hb1.out.new hn2.out)
  obtain ⟨W3, hW3⟩ : ∃ W3, W3 = WB.alloc (.cells #[.int .i64 0, .bool false, .int .i64 0, .slice none 0 0, .slice none 0 0] 26) := ⟨_, rfl⟩
  obtain ⟨T, hTT⟩ : ∃ T, Hid (T = WB.heap.size) := ⟨_, rfl⟩
  have hN3 : Hid (New WB W3) := by show New _ _; rw [hW3]; exact (New.refl WB).alloc _
  have hb3 : Hid (Blk W3 T 26 tdZ) := by show Blk _ _ _ _; rw [hW3, hTT.out]; exact Blk.fresh _ _ _
  have hTw : Hid (WB.heap.size ≤ T) := by show _ ≤ _; rw [hTT.out]; exact Nat.le_refl _
  have hHw : Hid (H < WB.heap.size) := lt_of_cell (hHc.out 0 hn0)
  have hHB : Hid (∀ w', New WB w' → ∀ i, i < n → w'.cell? ⟨H, i, none⟩ = some (encStr (P.getD i []))) := fun w' hn' i hi => (hn'.cell (lt_of_cell (hHc.out i hi))).trans (hHc.out i hi)
  obtain ⟨p0, hp0⟩ : ∃ p, Hid (p = P.getD 0 []) := ⟨_, rfl⟩
  obtain ⟨p1, hp1⟩ : ∃ p, Hid (p = P.getD 1 []) := ⟨_, rfl⟩
  go_upto_region 4 with fail
  rw [← hW3, ← hTT.out]
  clear hW3
  have e0 := hHB.out W3 hN3.out 0 hn0
  rw [← hp0.out] at e0
  have hni : (0 : Int) < (n : Int) := by omega
  have hrB : Hid (∀ w', New WB w' → Blk w' w.heap.size 26 tdZ ∧ New w w') := fun w' hn' => ⟨hbB.out.new hn', hNB.out.next hn'⟩
  go_upto_if 18 with fail
  go_cut [6] (fun p wx => TPos WB T P p wx)
  case first =>
    by_cases h1 : p0 = [110, 111]
    · have h1H := Lib.hid h1
      have h0 : Hid (P.getD 0 [] = noT) := by show _ = _; rw [← hp0.out]; exact h1
      subst h1
      by_cases h2 : n < 2
      · have h2i : (n : Int) < 2 := by omega
        have hnone : Hid (NoTold line) := head_no hP.out h0.out fun c _ _ h => by rw [← hn.out] at h; omega
        obtain ⟨hr, hNr⟩ := hrB.out W3 hN3.out
        have hr := Lib.hid hr
        have hNr := Lib.hid hNr
        have x0 := hb3.out.cell 0
        have x1 := hb3.out.cell 1
        have x2 := hb3.out.cell 2
        have x3 := hb3.out.cell 3
        have x4 := hb3.out.cell 4
        simp [tdZ, tdA] at x0 x1 x2 x3 x4
        go_wp2_with (refine wpList_store_row rfl 26 _ _ rfl w.heap.size tdZ rfl rfl 26 tdZ hr.out (by kernel_rfl) rfl (td_one ..) ?_)
        exact bodyPost_ret (v := .tuple #[.agg tdZ, .int .i64 4]) (results_cell_slot Tryd.results15 _ _ w.heap.size 26 tdZ _ rfl (hr.out.row tdZ) Tryd.underlying26 rfl (by kernel_rfl)) rfl (HrR.none hnone.out (hNr.out.row (Nat.le_refl _) _))
      · have h2i : ¬ (n : Int) < 2 := by omega
        have h2j : (1 : Int) < (n : Int) := by omega
        have e1 := hHB.out W3 hN3.out 1 (by omega)
        rw [← hp1.out] at e1
        have hund := Lib.hid (undeci_any p1 (by rw [hp1.out]; exact hPl.out 1) W3)
        go_upto_region 9 with (first
          | (go_at_call 36; refine hund.out.mono ?_; rintro e w4 ⟨x, b, rfl, hPx, hn4⟩
             have hPx := Lib.hid hPx
             have hn4 := Lib.hid hn4))
        have hb4 := Lib.hid (hb3.out.new hn4.out)
        have hN4 := Lib.hid (hN3.out.next hn4.out)
        obtain ⟨hr, hNr⟩ := hrB.out w4 hN4.out
        have hr := Lib.hid hr
        have hNr := Lib.hid hNr
        have x0 := hb4.out.cell 0
        have x1 := hb4.out.cell 1
        have x2 := hb4.out.cell 2
        have x3 := hb4.out.cell 3
        have x4 := hb4.out.cell 4
        have fz := hb4.out.frozen 0
        simp [tdZ, tdA] at x0 x1 x2 x3 x4
        cases b
        · have hnone : Hid (NoTold line) := head_no hP.out h0.out fun c h1 h2 _ h => hPx.out.2.2 rfl c (by omega) h2 (by rw [hp1.out]; exact h.symm)
          go_wp2_with (refine wpList_store_row rfl 26 _ _ rfl w.heap.size tdZ rfl rfl 26 tdZ hr.out (by kernel_rfl) rfl (td_one ..) ?_)
          exact bodyPost_ret (v := .tuple #[.agg tdZ, .int .i64 4]) (results_cell_slot Tryd.results15 _ _ w.heap.size 26 tdZ _ rfl (hr.out.row tdZ) Tryd.underlying26 rfl (by kernel_rfl)) rfl (HrR.none hnone.out (hNr.out.row (Nat.le_refl _) _))
        · by_cases hx : x < 1
          · have hnone : Hid (NoTold line) := head_no hP.out h0.out fun c h1 h2 _ h => by
              have := hPx.out.same (by rw [hp1.out]; exact h) (by omega) h2
              omega
            go_wp2_with (refine wpList_store_row rfl 26 _ _ rfl w.heap.size tdZ rfl rfl 26 tdZ hr.out (by kernel_rfl) rfl (td_one ..) ?_)
            exact bodyPost_ret (v := .tuple #[.agg tdZ, .int .i64 4]) (results_cell_slot Tryd.results15 _ _ w.heap.size 26 tdZ _ rfl (hr.out.row tdZ) Tryd.underlying26 rfl (by kernel_rfl)) rfl (HrR.none hnone.out (hNr.out.row (Nat.le_refl _) _))
          · have hfin : Hid (TPos WB T P (.int .i64 2) (w4.setCell ⟨T, 0, none⟩ (.int .i64 x))) := by
              refine ⟨2, x, rfl, Nat.le_refl _, ?_, .inr ⟨rfl, by omega, hPx.out.1.2, h0.out, ?_⟩, hN4.out.set hTw.out _⟩
              · have h := hb4.out.put 0 (.int .i64 x)
                simpa [tdZ, tdA] using h
              · rw [← hp1.out]
                exact (hPx.out.2.1 rfl).symm
            go_wp2
            go_meet
            exact hfin.out
    · have h1b : (p0 == [110, 111]) = false := by simpa using h1
      rw [h1b]
      by_cases h2 : p0 = [111, 107]
      · have hfin : Hid (TPos WB T P (.int .i64 1) W3) := ⟨1, 0, rfl, by decide, hb3.out, .inl ⟨rfl, rfl, by rw [← hp0.out]; exact h2⟩, hN3.out⟩
        clear h1 h1b
        subst h2
        go_wp2
        go_meet
        exact hfin.out
      · have h2b : (p0 == [111, 107]) = false := by simpa using h2
        have h2c : (p0 != [111, 107]) = true := by simpa using h2
        have hnone : Hid (NoTold line) := head_zero hP.out ⟨by rw [← hp0.out]; exact h2, by rw [← hp0.out]; exact h1⟩
        obtain ⟨hr, hNr⟩ := hrB.out W3 hN3.out
        have hr := Lib.hid hr
        have hNr := Lib.hid hNr
        have x0 := hb3.out.cell 0
        have x1 := hb3.out.cell 1
        have x2 := hb3.out.cell 2
        have x3 := hb3.out.cell 3
        have x4 := hb3.out.cell 4
        simp [tdZ, tdA] at x0 x1 x2 x3 x4
        clear h1 h2
        go_wp2_with (refine wpList_store_row rfl 26 _ _ rfl w.heap.size tdZ rfl rfl 26 tdZ hr.out (by kernel_rfl) rfl (td_one ..) ?_)
        exact bodyPost_ret (v := .tuple #[.agg tdZ, .int .i64 4]) (results_cell_slot Tryd.results15 _ _ w.heap.size 26 tdZ _ rfl (hr.out.row tdZ) Tryd.underlying26 rfl (by kernel_rfl)) rfl (HrR.none hnone.out (hNr.out.row (Nat.le_refl _) _))
  case rest =>
    obtain ⟨o, code, rfl, ho2', hbx, hHd, hNx⟩ : TPos WB T P _ wc := hcut
    have hbx := Lib.hid hbx
    have hHd := Lib.hid hHd
    have hNx := Lib.hid hNx
    have how : IntKind.i64.wrap ((o : Int) + 2) = (o : Int) + 2 := IntWalk.i64_in _ (by omega)
    have how1 : IntKind.i64.wrap ((o : Int) + 1) = (o : Int) + 1 := IntWalk.i64_in _ (by omega)
    have e0 := ()
    have hni := ()
    by_cases h2 : n < o + 2
    · have h2i : (n : Int) < (o : Int) + 2 := by omega
      have hnone : Hid (NoTold line) := head_none hP.out hHd.out fun _ _ _ _ _ _ _ _ _ h => by rw [← hn.out] at h; omega
      obtain ⟨hr, hNr⟩ := hrB.out wc hNx.out
      have hr := Lib.hid hr
      have hNr := Lib.hid hNr
      go_wp2_with (refine wpList_store_row rfl 26 _ _ rfl w.heap.size tdZ rfl rfl 26 tdZ hr.out (by kernel_rfl) rfl (td_one ..) ?_)
      exact bodyPost_ret (v := .tuple #[.agg tdZ, .int .i64 4]) (results_cell_slot Tryd.results15 _ _ w.heap.size 26 tdZ _ rfl (hr.out.row tdZ) Tryd.underlying26 rfl (by kernel_rfl)) rfl (HrR.none hnone.out (hNr.out.row (Nat.le_refl _) _))
    · have h2i : ¬ (n : Int) < (o : Int) + 2 := by omega
      have h2j : (o : Int) < (n : Int) := by omega
      have h2k : (o : Int) + 1 < (n : Int) := by omega
      have hon : Hid (o + 2 ≤ n) := by show _ ≤ _; omega
      obtain ⟨q1, hq1⟩ : ∃ q, Hid (q = P.getD o []) := ⟨_, rfl⟩
      obtain ⟨q2, hq2⟩ : ∃ q, Hid (q = P.getD (o + 1) []) := ⟨_, rfl⟩
      have hq2l : Hid (q2.length ≤ 1048576) := by show _ ≤ _; rw [hq2.out]; exact hPl.out _
      have e1 := hHB.out wc hNx.out o (by omega)
      rw [← hq1.out] at e1
      have hc1 := Lib.hid (undeci_any q1 (by rw [hq1.out]; exact hPl.out _) wc)
      clear h2
      go_upto_region 19 with (first
        | (go_at_call 36; refine hc1.out.mono ?_; rintro e w4 ⟨x, b1, rfl, hPx, hn4⟩
           have hPx := Lib.hid hPx
           have hn4 := Lib.hid hn4
           have hb4 := Lib.hid (hbx.out.new hn4.out)
           have hN4 := Lib.hid (hNx.out.next hn4.out)
           have cz := hb4.out.cell 2
           have fz := hb4.out.frozen 2
           simp [tdA] at cz))
      obtain ⟨W5, hW5⟩ : ∃ W5, W5 = w4.setCell ⟨T, 2, none⟩ (.int .i64 x) := ⟨_, rfl⟩
      have hb5 : Hid (Blk W5 T 26 (tdA code false x none 0 0 none 0 0)) := by
        show Blk _ _ _ _
        rw [hW5]
        have h := hb4.out.put 2 (.int .i64 x)
        simpa [tdA] using h
      have hN5 : Hid (New WB W5) := by show New _ _; rw [hW5]; exact hN4.out.set hTw.out _
      rw [← hW5]
      clear hW5 cz fz e1
      have e2 := hHB.out W5 hN5.out (o + 1) (by have := hon.out; omega)
      rw [← hq2.out] at e2
      have hc2 := Lib.hid (unhexa_any q2 hq2l.out W5)
      go_upto_region 20 with (first
        | (go_at_call 37; refine hc2.out.mono ?_; rintro e w6 ⟨v2, g, nn, b2, rfl, hPh, ho6, hn6⟩
           obtain ⟨R2, c2, rfl⟩ := own_slice ho6
           have hPh := Lib.hid hPh
           have ho6 := Lib.hid ho6
           have hn6 := Lib.hid hn6
           have hb6 := Lib.hid (hb5.out.new hn6.out)
           have hN6 := Lib.hid (hN5.out.next hn6.out)
           have cz := hb6.out.cell 3
           have fz := hb6.out.frozen 3
           simp [tdA] at cz))
      have hblk : Hid (∀ b off, R2 = some ⟨b, off, none⟩ → b ≠ T ∧ WB.heap.size ≤ b) := fun b off h => by
        subst h
        have h1 := (ho6.out.lt b rfl).1
        have h2 := hb5.out.lt
        have h3 := hN5.out.size
        exact ⟨by omega, by omega⟩
      have hnl : Hid (nn ≤ 1048576) := Nat.le_trans hPh.out.1.2 hq2l.out
      have hd6 := Lib.hid (own_rdI ho6.out (by have := hnl.out; unfold maxLen; omega))
      obtain ⟨W7, hW7⟩ : ∃ W7, W7 = w6.setCell ⟨T, 3, none⟩ (.slice R2 nn c2) := ⟨_, rfl⟩
      have hb7 : Hid (Blk W7 T 26 (tdA code false x R2 nn c2 none 0 0)) := by
        show Blk _ _ _ _
        rw [hW7]
        have h := hb6.out.put 3 (.slice R2 nn c2)
        simpa [tdA] using h
      have hN7 : Hid (New WB W7) := by show New _ _; rw [hW7]; exact hN6.out.set hTw.out _
      have hd7 : Hid (RdI .u8 W7 R2 nn (fun i => (g i : Nat))) := by show RdI _ _ _ _ _; rw [hW7]; exact set_rdI hd6.out (fun b off h => (hblk.out b off h).1) _ _
      rw [← hW7]
      clear hW7 cz fz e2
      have hgood : Hid (∀ (size' : Int) (f' : Nat → Nat) (n' : Nat), 0 ≤ size' → size' ≤ 9223372036854775807 → (∀ i, f' i < 256) → P.getD o [] = Lib.itoa size' → P.getD (o + 1) [] = hexT f' n' → b1 = true ∧ b2 = true ∧ 0 ≤ x) := fun size' f' n' h0 h1 hf' he hh => by
        have hx := hPx.out.same (s := size') (by rw [hq1.out]; exact he) h0 h1
        refine ⟨?_, ?_, by omega⟩
        · cases b1 with
          | true => rfl
          | false => exact absurd (show Lib.itoa size' = q1 by rw [hq1.out]; exact he.symm) (hPx.out.2.2 rfl size' (by omega) h1)
        · cases b2 with
          | true => rfl
          | false => exact absurd (show hexT f' n' = q2 by rw [hq2.out]; exact hh.symm) (hPh.out.2.2 rfl f' n' hf')
      obtain ⟨bad, hbad⟩ : ∃ bad, Hid (bad = (!b1 || !b2 || decide (x < 0))) := ⟨_, rfl⟩
      have x2 := hb7.out.cell 2
      simp [tdA] at x2
      go_cut [79] (fun t wx => t = .bool bad ∧ W7 = wx)
      case first =>
        cases b1
        · have hbe : Hid (bad = true) := hbad.out
          go_wp2
          go_meet
          exact ⟨by rw [hbe.out], rfl⟩
        · cases b2
          · have hbe : Hid (bad = true) := hbad.out
            go_wp2
            go_meet
            exact ⟨by rw [hbe.out], rfl⟩
          · by_cases hx0 : x < 0
            · have hbe : Hid (bad = true) := by show _ = _; rw [hbad.out, decide_eq_true hx0]; rfl
              go_wp2
              go_meet
              exact ⟨by rw [hbe.out], rfl⟩
            · have hbe : Hid (bad = false) := by show _ = _; rw [hbad.out, decide_eq_false hx0]; rfl
              go_wp2
              go_meet
              exact ⟨by rw [hbe.out], rfl⟩
      case rest =>
        obtain ⟨rfl, rfl⟩ := hcut
        clear x2
        cases bad
        · have hb1t : Hid ((b1 = true ∧ b2 = true) ∧ 0 ≤ x) := by
            have h := hbad.out.symm
            rw [Bool.or_eq_false_iff, Bool.or_eq_false_iff] at h
            obtain ⟨⟨h1, h2⟩, h3⟩ := h
            exact ⟨⟨by simpa using h1, by simpa using h2⟩, by simpa using h3⟩
          obtain ⟨m, hm⟩ : ∃ m, Hid (n - (o + 2) = m) := ⟨_, rfl⟩
          obtain ⟨c3, hc3⟩ : ∃ c3, Hid (c - (o + 2) = c3) := ⟨_, rfl⟩
          obtain ⟨o3, hsl, ho3⟩ := sl_tail2 H 0 n c (o + 2) hon.out hnc.out
          have hsl : ∀ w', (Instr.slice 24 (.slice (some ⟨H, 0, none⟩) n c) (some (.int .i64 ((o : Int) + 2))) none none).run Tryd.prog w' = .ok (.slice (some ⟨H, o3, none⟩) m c3) w' := fun w' => by rw [← hm.out, ← hc3.out]; exact hsl w'
          have ho3 : Hid (0 < m → o3 = o + 2) := fun h => by have := ho3 (by have := hm.out; omega); omega
          have hmn : m ≤ 1048577 := by have := hm.out; omega
          obtain ⟨v4, hv4⟩ : ∃ v4 : Value, Hid (v4 = .slice (some ⟨H, 0, none⟩) n c) := ⟨_, rfl⟩
          obtain ⟨R, hR⟩ : ∃ R, Hid (R = P.drop (o + 2)) := ⟨_, rfl⟩
          have hRl : Hid (R.length = m) := by show _ = _; rw [hR.out, List.length_drop, ← hn.out]; exact hm.out
          have hRat : Hid (∀ i, i < m → R[i]? = some (P.getD (o + 2 + i) [])) := fun i hi => by
            rw [hR.out, List.getElem?_drop]
            have hlt : o + 2 + i < P.length := by rw [← hn.out]; have := hm.out; omega
            rw [List.getD, List.getElem?_eq_getElem hlt]
            rfl
          obtain ⟨i1, hi1, hz0, hz1, hz2⟩ := info_parts infoStr
          rw [← hv4.out] at hsl ⊢
          clear h2i h2j h2k
          go_upto_region 23 with fail
          clear hsl how how1
          go_loopw [86] (fun y wr => ∃ (i : Nat) (dn : Bool) (acc : List Nm) (B : Option Addr) (e k : Nat), y = .int .i64 (i : Nat) ∧ i ≤ m ∧ Hid (k = acc.length) ∧ Hid (Got R i dn acc) ∧ Hid (Blk wr T 26 (tdA code dn x R2 nn c2 B k e)) ∧ Hid (wr.ownsRow W7.heap.size 9 1 (.slice B k e) k (acc.map encStr)) ∧ Hid (Alt (fun g => g = T) W7 wr)) (fun y _ => m - (intOf y).toNat)
          case atStart => exact ⟨0, false, [], none, 0, 0, rfl, Nat.zero_le _, Lib.hid rfl, Got.start _, hb7, Lib.hid ⟨rfl, .inl ⟨rfl, rfl⟩⟩, Lib.hid (Alt.refl _)⟩
          case round =>
            obtain ⟨i, dn, acc, B, e, k, rfl, hi, hk, hG, hB, hO, hA⟩ := hrel
            have hNr : Hid (New WB wr) := hN7.out.trans (hA.out.below hN7.out.size fun g hg => by subst hg; exact hTw.out)
            by_cases hlt : i < m
            · have hli : (i : Int) < (m : Int) := by omega
              have hoe := ho3.out (by omega)
              have hoH := Lib.hid hoe
              obtain ⟨q, hq⟩ : ∃ q, Hid (q = P.getD (o + 2 + i) []) := ⟨_, rfl⟩
              have hql : Hid (q.length ≤ 1048576) := by show _ ≤ _; rw [hq.out]; exact hPl.out _
              have e3 := hHB.out wr hNr.out (o + 2 + i) (by have := hm.out; omega)
              rw [← hq.out, ← hoe] at e3
              have hRq : Hid (R[i]? = some q) := by show _ = _; rw [hq.out]; exact hRat.out i hlt
              clear hoe
              obtain ⟨a, ha⟩ : ∃ a, Hid (a = decide (i = 0 ∧ q = doneT)) := ⟨_, rfl⟩
              go_upto_region 25 with fail
              go_cut [96] (fun t wx => t = .bool a ∧ wr = wx)
              case first =>
                by_cases hi0 : i = 0
                · subst hi0
                  by_cases hqd : q = [100, 111, 110, 101]
                  · have hae : Hid (a = true) := by show _ = _; rw [ha.out]; exact decide_eq_true ⟨rfl, hqd⟩
                    subst hqd
                    go_wp2
                    go_meet
                    exact ⟨by rw [hae.out], rfl⟩
                  · have hae : Hid (a = false) := by show _ = _; rw [ha.out]; exact decide_eq_false fun h => hqd h.2
                    have hqb : (q == [100, 111, 110, 101]) = false := by simpa using hqd
                    clear hqd
                    go_wp2
                    go_meet
                    exact ⟨by rw [hae.out], rfl⟩
                · have hae : Hid (a = false) := by show _ = _; rw [ha.out]; exact decide_eq_false fun h => hi0 h.1
                  have hi0b : ((i : Int) == 0) = false := by simp; omega
                  go_wp2
                  go_meet
                  exact ⟨by rw [hae.out], rfl⟩
              case rest =>
                obtain ⟨rfl, rfl⟩ := hcut
                cases a
                · have hna : Hid (¬ (i = 0 ∧ q = doneT)) := fun h => by
                    have := ha.out
                    rw [decide_eq_true h] at this
                    cases this
                  have hgn := Lib.hid (goodName_any q (by have := hql.out; unfold maxLen; omega) wr)
                  obtain ⟨bg, hbg⟩ : ∃ bg, Hid (bg = goodN q) := ⟨_, rfl⟩
                  rw [← hbg.out] at hgn
                  obtain ⟨bb, hbb⟩ : ∃ bb, Hid (bb = !oddN q) := ⟨_, rfl⟩
                  go_upto_region 27 with fail
                  go_cut [103] (fun t wx => t = .bool bb ∧ wr = wx)
                  case first =>
                    cases bg
                    · have hbe : Hid (bb = false) := by show _ = _; rw [hbb.out]; unfold oddN; rw [← hbg.out]; rfl
                      go_wp2_with (go_at_call 25; refine hgn.out.mono ?_; rintro e w9 ⟨rfl, rfl⟩)
                      go_meet
                      exact ⟨by rw [hbe.out], rfl⟩
                    · by_cases hqd : q = [100, 111, 110, 101]
                      · have hbe : Hid (bb = false) := by show _ = _; rw [hbb.out, hqd]; rfl
                        subst hqd
                        go_wp2_with (go_at_call 25; refine hgn.out.mono ?_; rintro e w9 ⟨rfl, rfl⟩)
                        go_meet
                        exact ⟨by rw [hbe.out], rfl⟩
                      · have hbe : Hid (bb = true) := by show _ = _; rw [hbb.out, odd_of hbg.out.symm hqd]; rfl
                        have hqb : (q == [100, 111, 110, 101]) = false := by simpa using hqd
                        have hqc : (q != [100, 111, 110, 101]) = true := by simpa using hqd
                        clear hqd
                        go_wp2_with (go_at_call 25; refine hgn.out.mono ?_; rintro e w9 ⟨rfl, rfl⟩)
                        go_meet
                        exact ⟨by rw [hbe.out], rfl⟩
                  case rest =>
                    obtain ⟨rfl, rfl⟩ := hcut
                    cases bb
                    · have hodd : Hid (oddN q = true) := by
                        show _ = _
                        have := hbb.out
                        cases h : oddN q with
                        | true => rfl
                        | false => rw [h] at this; cases this
                      have hnone : Hid (NoTold line) := head_none hP.out hHd.out fun _ dn' _ _ l' _ _ _ hl' _ _ _ hr => by
                        have h1 := hRq.out
                        rw [hR.out, hr] at h1
                        rcases rest_at hl' h1 with h | h
                        · exact hna.out h
                        · rw [hodd.out] at h
                          cases h
                      obtain ⟨hr, hNw⟩ := hrB.out wr hNr.out
                      have hr := Lib.hid hr
                      have hNw := Lib.hid hNw
                      go_wp2_with (refine wpList_store_row rfl 26 _ _ rfl w.heap.size tdZ rfl rfl 26 tdZ hr.out (by kernel_rfl) rfl (td_one ..) ?_)
                      exact bodyPost_ret (v := .tuple #[.agg tdZ, .int .i64 4]) (results_cell_slot Tryd.results15 _ _ w.heap.size 26 tdZ _ rfl (hr.out.row tdZ) Tryd.underlying26 rfl (by kernel_rfl)) rfl (HrR.none hnone.out (hNw.out.row (Nat.le_refl _) _))
                    · have hgd : Hid (oddN q = false) := by
                        show _ = _
                        have := hbb.out
                        cases h : oddN q with
                        | false => rfl
                        | true => rw [h] at this; cases this
                      have hG2 := Lib.hid (hG.out.more hRq.out hgd.out)
                      have hki : k ≤ 1048577 := by have := hG.out.len; rw [← hk.out] at this; omega
                      have hsz := hA.out.size
                      have y4 := hB.out.cell 4
                      simp [tdA] at y4
                      have hne : Hid ((9 : TypeId) ≠ 26) := by show _ ≠ _; decide
                      have hkeep : Hid (∀ w7, (wr.alloc (.cells #[encStr q] 9)).grownBy w7 (Value.slice B k e).ownBlock → Blk w7 T 26 (tdA code dn x R2 nn c2 B k e) ∧ Alt (fun g => g = T) W7 w7) := fun w7 hg =>
                        ⟨(hB.out.alloc _).grown hg (own_ne_blk hO.out hB.out hne.out), (hA.out.alloc _).grown hg fun r e => .inr (hO.out.lt r e).1⟩
                      have hnx : Hid (acc.map encStr ++ [encStr q] = (acc ++ [q]).map encStr) := by show _ = _; simp
                      go_wp2_with (first
                        | (at_builtin; refine wpList_append_lies _ rfl (.tmp 105) (.tmp 107) 24 rfl W7.heap.size 9 i1 _ 1 16 Tryd.underlying24 hi1 hz0 hz1 hz2 rfl (by decide) (.slice B k e) k (acc.map encStr) rfl (hO.out.alloc _) ⟨wr.heap.size, 0, none⟩ 1 1 [encStr q] rfl rfl (World.news_of_block (cs := #[.string _]) (t := 9) (fr := (0, 0)) (heap_alloc_new wr _)) (by simp [Value.oneCell', encStr]) (by omega) (by unfold maxLen; omega) (by omega) (by simp; omega) _ rfl ?_
                           intro g6 c6' w6 hown6 hgr6 hat6 hlt6
                           have hown6 := Lib.hid hown6
                           obtain ⟨hb6, hA6⟩ := hkeep.out w6 hgr6
                           have hb6 := Lib.hid hb6
                           have hA6 := Lib.hid hA6
                           have fz := hb6.out.frozen 4
                           have cz := hb6.out.cell 4
                           simp [tdA] at cz
                           clear hgr6 hat6 hlt6))
                      have hb8 := Lib.hid (hb6.out.put 4 (.slice (some ⟨g6, 0, none⟩) (k + 1) c6'))
                      have hO8 := Lib.hid (Alt.own (Alt.set (K := fun g => g = T) (Alt.refl w6) (.inl rfl) (k := 4) (.slice (some ⟨g6, 0, none⟩) (k + 1) c6')) hown6.out fun g hg e => by
                        subst e
                        exact own_ne_blk hown6.out hb6.out hne.out hg)
                      have hA8 : Hid (Alt (fun g => g = T) W7 (w6.setCell ⟨T, 4, none⟩ (.slice (some ⟨g6, 0, none⟩) (k + 1) c6'))) := hA6.out.set (.inl rfl) _
                      go_roundw
                      case rel =>
                        refine ⟨i + 1, dn, acc ++ [q], some ⟨g6, 0, none⟩, c6', k + 1, by go_num, by omega, ?_, hG2, ?_, ?_, hA8⟩
                        · show _ = _
                          rw [List.length_append, ← hk.out]
                          rfl
                        · show Blk _ _ _ _
                          have h := hb8.out
                          simpa [tdA] using h
                        · show World.ownsRow _ _ _ _ _ _ _
                          rw [← hnx.out]
                          exact hO8.out
                      case measure => simp [intOf]; omega
                · have hyes : i = 0 ∧ q = doneT := of_decide_eq_true ha.out.symm
                  obtain ⟨h0, hqd⟩ := hyes
                  subst h0
                  have hRd := hRq.out
                  rw [hqd] at hRd
                  obtain ⟨hG2, rfl, rfl⟩ := hG.out.done hRd
                  have hG2 := Lib.hid hG2
                  have cz := hB.out.cell 1
                  have fz := hB.out.frozen 1
                  simp [tdA] at cz
                  have hb8 := Lib.hid (hB.out.put 1 (.bool true))
                  have hO8 := Lib.hid (Alt.own (Alt.set (K := fun g => g = T) (Alt.refl wr) (.inl rfl) (k := 1) (.bool true)) hO.out fun g hg e => by
                    subst e
                    exact own_ne_blk hO.out hB.out (by decide) hg)
                  have hA8 : Hid (Alt (fun g => g = T) W7 (wr.setCell ⟨T, 1, none⟩ (.bool true))) := hA.out.set (.inl rfl) _
                  clear hRd hqd
                  go_wp2
                  go_roundw
                  case rel =>
                    refine ⟨1, true, [], B, e, k, by go_num, by omega, hk, hG2, ?_, hO8, hA8⟩
                    show Blk _ _ _ _
                    have h := hb8.out
                    simpa [tdA] using h
                  case measure => simp [intOf]; omega
            · have him : i = m := by omega
              subst him
              have hli : ¬ (i : Int) < (i : Int) := by omega
              obtain ⟨hr, hNw⟩ := hrB.out wr hNr.out
              have hr := Lib.hid hr
              have hNw := Lib.hid hNw
              have hGe : Hid (R = restT dn acc ∧ acc.any oddN = false) := by
                have h := hG.out.1
                rw [List.take_of_length_le (by rw [hRl.out]; exact Nat.le_refl _)] at h
                exact ⟨h, hG.out.2⟩
              have hcd : Hid (0 ≤ code ∧ code ≤ 9223372036854775807) := by
                rcases hHd.out with ⟨_, h, _⟩ | ⟨_, h1, h2, _⟩
                · exact ⟨by omega, by omega⟩
                · exact ⟨by omega, h2⟩
              have hfin : Hid (HrR line w (.returned (.tuple #[.agg (tdA code dn x R2 nn c2 B k e), .int .i64 0])) (wr.setRow w.heap.size (tdA code dn x R2 nn c2 B k e))) := by
                have hli : lineT code x dn g nn acc = line := by
                  refine head_line hP.out hHd.out (by rw [← hn.out]; exact hon.out) ?_ ?_ ?_
                  · rw [← hq1.out]
                    exact (hPx.out.2.1 hb1t.out.1.1).symm
                  · rw [← hq2.out]
                    exact (hPh.out.2.1 hb1t.out.1.2).symm
                  · rw [← hR.out]
                    exact hGe.out.1
                have hmem : ∀ s, s ∈ acc → s.length ≤ 1048576 := fun s hs => by
                  have h1 : s ∈ R := by
                    rw [hGe.out.1]
                    exact List.mem_append_right _ hs
                  rw [hR.out, hP.out] at h1
                  exact Nat.le_trans (cut_mem_len line s (List.mem_of_mem_drop h1)) hlH.out
                have hal : acc.length ≤ 1048576 := by
                  have h1 := hG.out.len
                  have h2 := hm.out
                  have h3 := hon.out
                  omega
                refine ⟨code, x, dn, R2, nn, c2, g, B, e, acc, 0, by rw [← hk.out], hear_good hPh.out.1.1 hcd.out.2 hPx.out.1.2 (bad_of hcd.out.1 hb1t.out.2 hGe.out.2) hli, ⟨row_rdI (alt_rdI hd7.out hA.out fun b off h => (hblk.out b off h).1) (fun b off h => ?_) _, own_rdS (Alt.own (Alt.row (K := fun g => g = w.heap.size) (Alt.refl wr) (.inl rfl) _) hO.out fun g hg e => by
                    subst e
                    exact own_ne_blk hO.out hr.out (by decide) hg) hal hmem⟩, hNw.out.row (Nat.le_refl _) _⟩
                have h1 := (hblk.out b off h).2
                have h2 := hbB.out.lt
                omega
              have x0 := hB.out.cell 0
              have x1 := hB.out.cell 1
              have x2 := hB.out.cell 2
              have x3 := hB.out.cell 3
              have x4 := hB.out.cell 4
              simp [tdA] at x0 x1 x2 x3 x4
              go_wp2_with (refine wpList_store_row rfl 26 _ _ rfl w.heap.size (tdA code dn x R2 nn c2 B k e) rfl rfl 26 tdZ hr.out (by kernel_rfl) rfl (td_one ..) ?_)
              exact bodyPost_ret (v := .tuple #[.agg (tdA code dn x R2 nn c2 B k e), .int .i64 0]) (results_cell_slot Tryd.results15 _ _ w.heap.size 26 (tdA code dn x R2 nn c2 B k e) _ rfl (hr.out.row (tdA code dn x R2 nn c2 B k e)) Tryd.underlying26 rfl (by kernel_rfl)) rfl hfin.out
        · have hnone : Hid (NoTold line) := head_none hP.out hHd.out fun size' dn' f' n' l' h0 h1 hf' _ _ he hh _ => by
            obtain ⟨r1, r2, r3⟩ := hgood.out size' f' n' h0 h1 hf' he hh
            have := hbad.out
            rw [r1, r2, decide_eq_false (by omega)] at this
            cases this
          obtain ⟨hr, hNw⟩ := hrB.out W7 hN7.out
          have hr := Lib.hid hr
          have hNw := Lib.hid hNw
          go_wp2_with (refine wpList_store_row rfl 26 _ _ rfl w.heap.size tdZ rfl rfl 26 tdZ hr.out (by kernel_rfl) rfl (td_one ..) ?_)
          exact bodyPost_ret (v := .tuple #[.agg tdZ, .int .i64 4]) (results_cell_slot Tryd.results15 _ _ w.heap.size 26 tdZ _ rfl (hr.out.row tdZ) Tryd.underlying26 rfl (by kernel_rfl)) rfl (HrR.none hnone.out (hNw.out.row (Nat.le_refl _) _))
end Go.Proofs.YtaommipcdcncnaaDoor.desk
