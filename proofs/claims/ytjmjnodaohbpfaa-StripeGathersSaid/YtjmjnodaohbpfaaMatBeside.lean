/-
  Contracts: a copy of a matrix: ownMatrix of the reference, beside of the program.
-/
import Derived.Test.YtjmjnodaohbpfaaMatReduce
import Derived.Test.YtjmjnodaohbpfaaCopyRow
namespace Go.Proofs.Ytjmjnodaohbpfaa.mat
open Go.ChangeShapes Go.WideShapes Go.ChangeAt Go.RowKit Go.Proofs.Ytjmjnodaohbpfaa.kit Go.Proofs.Ytjmjnodaohbpfaa.gf Go.Deep
set_option linter.unusedVariables false

/-- a block of numbers -/
def RowV (w : World) (g m : Nat) (f : Nat → Nat) : Prop := ∃ cs : Array Value, w.heap[g]? = some (.cells cs 3 (0, 0)) ∧ ∀ k, k < m → cs[k]? = some (.int .i64 (f k : Nat))
section
variable {w w' : World} {g m : Nat} {f f' : Nat → Nat}
theorem RowV.lt (h : RowV w g m f) : g < w.heap.size := by obtain ⟨cs, h1, _⟩ := h; exact Blk.lt (t := 3) h1
theorem RowV.block (h : RowV w g m f) (hb : w'.heap[g]? = w.heap[g]?) : RowV w' g m f := by obtain ⟨cs, h1, h2⟩ := h; exact ⟨cs, hb.trans h1, h2⟩
theorem RowV.new (h : RowV w g m f) (hn : New w w') : RowV w' g m f := h.block (hn.block g h.lt)
theorem RowV.grown (h : RowV w g m f) {row : Option Nat} (hg : w.grownBy w' row) (hr : row ≠ some g) : RowV w' g m f := h.block (hg.block g h.lt (Ne.symm hr))
theorem RowV.ne_own (h : RowV w g m f) {base : Nat} {size : Nat} {v : Value} {n : Nat} {xs : List Value} (ho : w.ownsRow base 29 size v n xs) : v.ownBlock ≠ some g := by
  intro he
  obtain ⟨cs, h1, _⟩ := h
  rcases ho.2 with ⟨rfl, _⟩ | ⟨g', cap, cur, rfl, _, hg, _⟩
  · cases he
  · have hgb : g' = g := by simpa [Value.ownBlock] using he
    subst hgb
    rw [hg] at h1
    injection h1 with h1
    injection h1 with _ h1 _
    exact absurd h1 (by decide)
theorem RowV.of_own {base : Nat} {c : Nat} (h : w.ownsRow base 3 1 (.slice (some ⟨g, 0, none⟩) m c) m (rowL f m)) : RowV w g m f := by
  rcases h.2 with ⟨h0, _⟩ | ⟨g', cap, cur, hv, hb, hg, h1, h2, h3, h4⟩
  · cases h0
  · cases hv
    refine ⟨cur, hg, fun k hk => ?_⟩
    have h5 : (cur.toList.take (m * 1))[k]? = some (.int .i64 (f k : Nat)) := by rw [h4]; simp [rowL, hk]
    rw [List.getElem?_take, if_pos (by omega)] at h5
    simpa using h5
end
def rowsC (G C : Nat → Nat) (m k : Nat) : List Value := (List.range k).map fun i => .slice (some ⟨G i, 0, none⟩) m (C i)
theorem rowsC_succ (G C : Nat → Nat) (m k g c : Nat) : rowsC (fun i => if i = k then g else G i) (fun i => if i = k then c else C i) m (k + 1) = rowsC G C m k ++ [.slice (some ⟨g, 0, none⟩) m c] := by
  unfold rowsC
  rw [List.range_succ, List.map_append]
  congr 1
  · apply List.map_congr_left
    intro i hi
    have : i ≠ k := by have := List.mem_range.1 hi; omega
    simp [this]
  · simp
/-- the rows so far: each in a block of its own -/
structure RowsAt (w0 : World) (k m : Nat) (G C : Nat → Nat) (Z : Nat → Nat → Nat) (w : World) (v : Value) : Prop where
  own : w.ownsRow w0.heap.size 29 1 v k (rowsC G C m k)
  row : ∀ i, i < k → RowV w (G i) m (Z i) ∧ w0.heap.size ≤ G i
  inj : ∀ i j, i < k → j < k → G i = G j → i = j
  cp : ∀ i, i < k → m ≤ C i ∧ C i ≤ maxLen
  nw : New w0 w
theorem RowsAt.mx {w0 w : World} {n m : Nat} {G C : Nat → Nat} {Z : Nat → Nat → Nat} {v : Value} (h : RowsAt w0 n m G C Z w v) (hn : 0 < n) :
    ∃ o cap, v = .slice (some ⟨o, 0, none⟩) n cap ∧ n ≤ cap ∧ Mx w w0.heap.size w.heap.size o n m G C Z := by
  have hown := h.own
  rcases hown.2 with ⟨_, h0⟩ | ⟨o, cap, cur, rfl, hb, hg, h1, h2, h3, h4⟩
  · omega
  · refine ⟨o, cap, rfl, h1, ⟨⟨hb, Blk.lt (t := 29) hg⟩, fun i hi => ⟨(h.row i hi).2, (h.row i hi).1.lt⟩, fun i hi he => ?_, h.inj, h.cp, ⟨cur, hg, fun i hi => ?_⟩, fun i hi => (h.row i hi).1⟩⟩
    · exact (h.row i hi).1.ne_own hown (by rw [he]; rfl)
    · have h5 : (cur.toList.take (n * 1))[i]? = some (.slice (some ⟨G i, 0, none⟩) m (C i)) := by rw [h4]; simp [rowsC, hi]
      rw [List.getElem?_take, if_pos (by omega)] at h5
      simpa using h5
theorem RowsAt.start (w0 : World) {m : Nat} {G C : Nat → Nat} {Z : Nat → Nat → Nat} : RowsAt w0 0 m G C Z w0 (.slice none 0 0) :=
  ⟨World.ownsRow_nil _ _ _ _, fun i hi => absurd hi (Nat.not_lt_zero i), fun i j hi => absurd hi (Nat.not_lt_zero i), fun i hi => absurd hi (Nat.not_lt_zero i), New.refl _⟩
/-- a row more: made in a new block, its slice appended -/
theorem RowsAt.more {w0 w w1 w2 : World} {k m g c : Nat} {G C : Nat → Nat} {Z : Nat → Nat → Nat} {v v2 : Value} {o : Obj} (h : RowsAt w0 k m G C Z w v) (hn : New w w1) (hg : w.heap.size ≤ g) (hr : RowV w1 g m (Z k))
    (hown : w2.ownsRow w0.heap.size 29 1 v2 (k + 1) (rowsC G C m k ++ [.slice (some ⟨g, 0, none⟩) m c])) (hgr : (w1.alloc o).grownBy w2 v.ownBlock) (hc : m ≤ c ∧ c ≤ maxLen) :
    RowsAt w0 (k + 1) m (fun i => if i = k then g else G i) (fun i => if i = k then c else C i) Z w2 v2 := by
  have ho1 := (own_new h.own hn).alloc o
  have hk : ∀ (g' : Nat) (f : Nat → Nat), RowV w1 g' m f → RowV w2 g' m f := fun g' f hr' => (hr'.new ((New.refl _).alloc o)).grown hgr ((hr'.new ((New.refl _).alloc o)).ne_own ho1)
  refine ⟨by rw [rowsC_succ]; exact hown, fun i hi => ?_, fun i j hi hj he => ?_, fun i hi => (by by_cases e : i = k; (rw [if_pos e]; exact hc); (rw [if_neg e]; exact h.cp i (by omega))), (h.nw.next hn).append' hgr fun g' hg' => (h.own.lt _ hg').1⟩
  · by_cases e : i = k
    · subst e
      rw [if_pos rfl]
      exact ⟨hk _ _ hr, Nat.le_trans h.nw.size hg⟩
    · rw [if_neg e]
      have := h.row i (by omega)
      exact ⟨hk _ _ (this.1.new hn), this.2⟩
  · by_cases e1 : i = k <;> by_cases e2 : j = k
    · omega
    · subst e1
      rw [if_pos rfl, if_neg e2] at he
      have := (h.row j (by omega)).1.lt
      omega
    · subst e2
      rw [if_neg e1, if_pos rfl] at he
      have := (h.row i (by omega)).1.lt
      omega
    · rw [if_neg e1, if_neg e2] at he
      exact h.inj i j (by omega) (by omega) he
def OwnPost (n m : Nat) (Z : Nat → Nat → Nat) (w : World) (e : Ending) (w' : World) : Prop :=
  ∃ o cap G C, e = .returned (.slice (some ⟨o, 0, none⟩) n cap) ∧ n ≤ cap ∧ Mx w' w.heap.size w'.heap.size o n m G C Z ∧ New w w'
theorem rowL_one (f : Nat → Nat) (k : Nat) : ∀ u ∈ rowL f k, u.oneCell' = true := fun u hu => by
  obtain ⟨j, _, rfl⟩ := List.mem_map.1 hu
  simp [Value.oneCell']
/-- a row of the argument, its numbers being elements -/
theorem rd_cells {w : World} {A : Option Addr} {m b off : Nat} {f : Nat → Nat} (hb : ∀ j, j < m → w.cell? ⟨b, off + j, none⟩ = some (.int .i64 (f j : Nat))) : ∀ j u, (rowL f m)[j]? = some u → w.cell? ((⟨b, off, none⟩ : Addr).add j) = some u := fun j u hu => by
  have hj : j < m := by
    have := (List.getElem?_eq_some_iff.1 hu).1
    simpa [rowL] using this
  rw [add_cell, hb j hj]
  simpa [rowL, hj] using hu
set_option maxRecDepth 100000 in
set_option maxHeartbeats 1000000 in
theorem ownMatrix_any (A : Option Addr) (n c m : Nat) (R : Nat → Option Addr) (L C : Nat → Nat) (M : Nat → Nat → Int) (w : World) (h : RdM .i64 w A n R L C M) (hm : mayM n L M = true) (hL : L 0 = m) :
    Calls Try.prog 51 #[.slice A n c] w (OwnPost n m (fun i k => elN M i k) w) := by
  obtain ⟨hn1, hn8, hrow⟩ := mayM_out hm
  have h0 := Lib.hid h
  have hrow0 := Lib.hid hrow
  have hm1 : 1 ≤ m := by have := (hrow 0 (by omega)).2.1; omega
  have hm8 : m ≤ 8 := by have := (hrow 0 (by omega)).2.2.1; omega
  have hLr : Hid (∀ i, i < n → L i = m) := fun i hi => by rw [(hrow i hi).1, hL]
  obtain ⟨i0, hi0, hz0, hz1, hz2⟩ := info_parts infoInt
  obtain ⟨i1, hj0, hy0, hy1, hy2⟩ := info_parts info30
  clear h hrow hm hL
  go_enter Try.func51, Try.ntmps51
  go_wp2
  go_loopw [8, 3] (fun x s wr => ∃ (i : Nat) (sv : Value) (G C' : Nat → Nat), sv = s ∧ x = .int .i64 i ∧ i ≤ n ∧ Hid (RowsAt w i m G C' (fun i k => elN M i k) wr sv)) (fun x _ _ => n - (intOf x).toNat)
  case atStart => exact ⟨0, _, fun _ => 0, fun _ => 0, rfl, rfl, by omega, RowsAt.start w⟩
  case round =>
    obtain ⟨i, sv, G, C', rfl, rfl, hi, hrs⟩ := hrel
    by_cases hlt : i < n
    · have hnw := hrs.out.nw
      obtain ⟨b, off, rfl, hb, hcs⟩ := h0.out.2.1 (by omega)
      have ci := (hnw.cell hb).trans (hcs i hlt)
      obtain ⟨hri, _, _⟩ := h0.out.2.2 i hlt
      obtain ⟨br, offr, hRe, hbr, hcr⟩ := hri.2 (by have := hLr.out i hlt; omega)
      rw [hRe, hLr.out i hlt] at ci
      obtain ⟨f, hf⟩ : ∃ f : Nat → Nat, Hid (f = fun k => elN M i k) := ⟨_, rfl⟩
      have hcr2 : ∀ j, j < m → wr.cell? ⟨br, offr + j, none⟩ = some (.int .i64 (f j : Nat)) := fun j hj => by
        rw [(hnw.cell hbr).trans (hcr j (by have := hLr.out i hlt; omega)), hf.out]
        have := allE_out (hrow0.out i hlt).2.2.2 j (by have := hLr.out i hlt; omega)
        unfold elP at this
        congr 2
        show M i j = ((M i j).toNat : Int)
        omega
      have hsrc := Lib.hid (rd_cells (A := none) hcr2)
      have hnilr := World.ownsRow_nil wr wr.heap.size 3 1
      have hown := hrs.out.own
      have hii : (i : Int) < (n : Int) := by omega
      have hone := Lib.hid (rowL_one f m)
      have hlen : Hid ((rowL f m).length = m) := rowL_len f m
      clear hcs hcr hcr2 hri hRe hbr
      go_wp2_with (first
        | (at_builtin
           refine wpList_append_own _ rfl _ _ 29 rfl wr.heap.size 3 i0 _ 1 8 Try.underlying29 hi0 hz0 hz1 hz2 rfl (by decide) (Value.slice none 0 0) 0 [] rfl hnilr ⟨br, offr, none⟩ m (C i) (rowL f m) rfl (by rw [hlen.out]; omega) hsrc.out hone.out (by unfold maxLen; omega) (by omega) (Nat.le_refl _) ?_
           intro v3 w3 hown3 hgrow hnil
           obtain ⟨g3, c3, rfl, hg3a, hg3b⟩ := hown3.form (by omega))
        | (at_builtin
           refine wpList_append_own _ rfl _ _ 53 rfl w.heap.size 29 i1 _ 1 24 Try.underlying53 hj0 hy0 hy1 hy2 rfl (by decide) _ i (rowsC G C' m i) rfl ((own_new hown (New.of_grown hgrow)).alloc _) ⟨w3.heap.size, 0, none⟩ 1 1 [.slice (some ⟨g3, 0, none⟩) m c3] rfl rfl (World.news_of_block (cs := #[.slice _ _ _]) (t := 29) (fr := (0, 0)) (heap_alloc_new w3 _)) (by simp [Value.oneCell']) (by unfold maxLen; omega) (by omega) (by have := hnw.size; have := (New.of_grown hgrow).size; simp; omega) ?_
           intro v4 w4 hown4 hgrow4 hnil4))
      have hgA : wr.grownBy w3 none := hgrow
      rw [List.nil_append, Nat.zero_add] at hown3
      have hrv : RowV w3 g3 m f := RowV.of_own hown3
      rw [hf.out] at hrv
      have hc3 : m ≤ c3 ∧ c3 ≤ maxLen := by obtain ⟨_, _, he, hle, hlm, _⟩ := own_open hown3; cases he; exact ⟨hle, hlm⟩
      have hrs2 := Lib.hid (hrs.out.more (New.of_grown hgA) hg3a hrv hown4 hgrow4 hc3)
      go_roundw
      case rel => exact ⟨i + 1, _, _, _, rfl, by go_num, by omega, hrs2.out⟩
      case measure => simp [intOf]; omega
    · have hin : i = n := by omega
      subst hin
      have hii : ¬ (i : Int) < (i : Int) := by omega
      obtain ⟨o, cap, rfl, hcap, hmx⟩ := hrs.out.mx (by omega)
      have hpost : Hid (OwnPost i m (fun i k => elN M i k) w (.returned (.slice (some ⟨o, 0, none⟩) i cap)) wr) := ⟨o, cap, G, C', rfl, hcap, hmx, hrs.out.nw⟩
      clear hmx
      go_wp2
      go_ret
      exact hpost.out
/-- a row of numbers, its every cell known -/
theorem RowV.of_rowIs {w : World} {g m : Nat} {F : Nat → Value} {f : Nat → Nat} (h : w.rowIs g 3 m F) (hf : ∀ k, k < m → F k = .int .i64 (f k : Nat)) : RowV w g m f := by
  obtain ⟨cs, h1, _, h3⟩ := h
  exact ⟨cs, h1, fun k hk => by rw [h3 k hk, hf k hk]⟩
/-- a matrix beside which there is the one that changes nothing, or none -/
def besZ (M : Nat → Nat → Int) (m more : Nat) : Nat → Nat → Nat := fun i k => if k < m then elN M i k else if 0 < more ∧ k = m + i then 1 else 0
set_option maxRecDepth 100000 in
set_option maxHeartbeats 1000000 in
theorem beside_any (A : Option Addr) (n c m more : Nat) (R : Nat → Option Addr) (L C : Nat → Nat) (M : Nat → Nat → Int) (w : World) (h : RdM .i64 w A n R L C M) (hm : mayM n L M = true) (hL : L 0 = m) (hmore : more = 0 ∨ (more = n ∧ n ≤ 8)) :
    Calls Try.prog 73 #[.slice A n c, .int .i64 more] w (OwnPost n (m + more) (besZ M m more) w) := by
  obtain ⟨hn1, hn8, hrow⟩ := mayM_out hm
  have h0 := Lib.hid h
  have hrow0 := Lib.hid hrow
  have hm1 : 1 ≤ m := by have := (hrow 0 (by omega)).2.1; omega
  have hm8 : m ≤ 8 := by have := (hrow 0 (by omega)).2.2.1; omega
  have hLr : Hid (∀ i, i < n → L i = m) := fun i hi => by rw [(hrow i hi).1, hL]
  obtain ⟨i1, hj0, hy0, hy1, hy2⟩ := info_parts info30
  obtain ⟨N, hN⟩ : ∃ N, N = m + more := ⟨_, rfl⟩
  have hN16 : N ≤ 16 := by omega
  have hNm : m ≤ N := by omega
  obtain ⟨mr, hmr⟩ : ∃ mr : Int, mr = (more : Int) := ⟨_, rfl⟩
  rw [← hmr]
  have hsum : (m : Int) + mr = (N : Int) := by omega
  have hmr0 : 0 ≤ mr := by omega
  have hmr8' : mr ≤ 8 := by omega
  have hmk := run_make_row' (P := Try.prog) 29 3 (.int .i64 0) 8 Try.underlying29 infoInt rfl .i64 .i64 N (by omega) (by omega)
  have hNn : more = 0 ∨ (0 < more ∧ m + n ≤ N) := by omega
  have hmr8 : more ≤ 8 := by omega
  rw [← hN]
  have hN0 := Lib.hid hN
  replace hmr := Lib.hid hmr
  clear h hrow hm hL hmore hN
  go_enter Try.func73, Try.ntmps73
  go_wp2
  go_loopw [11, 5] (fun x s wr => ∃ (i : Nat) (sv : Value) (G C' : Nat → Nat), sv = s ∧ x = .int .i64 i ∧ i ≤ n ∧ Hid (RowsAt w i N G C' (besZ M m more) wr sv)) (fun x _ _ => n - (intOf x).toNat)
  case atStart => exact ⟨0, _, fun _ => 0, fun _ => 0, rfl, rfl, by omega, RowsAt.start w⟩
  case round =>
    obtain ⟨i, sv, G, C', rfl, rfl, hi, hrs⟩ := hrel
    by_cases hlt : i < n
    · have hnw := hrs.out.nw
      obtain ⟨b, off, rfl, hb, hcs⟩ := h0.out.2.1 (by omega)
      have ci := (hnw.cell hb).trans (hcs i hlt)
      obtain ⟨hri, _, _⟩ := h0.out.2.2 i hlt
      obtain ⟨br, offr, hRe, hbr, hcr⟩ := hri.2 (by have := hLr.out i hlt; omega)
      rw [hRe, hLr.out i hlt] at ci
      obtain ⟨f, hf⟩ : ∃ f : Nat → Nat, Hid (f = fun k => elN M i k) := ⟨_, rfl⟩
      have hcr2 : ∀ j, j < m → (wr.alloc (.cells (madeCells #[.int .i64 0] N) 3)).cell? ⟨br, offr + j, none⟩ = some (.int .i64 (f j : Nat)) := fun j hj => by
        rw [(((New.refl wr).alloc _).cell (show br < wr.heap.size by have := hnw.size; omega)), (hnw.cell hbr).trans (hcr j (by have := hLr.out i hlt; omega)), hf.out]
        have := allE_out (hrow0.out i hlt).2.2.2 j (by have := hLr.out i hlt; omega)
        unfold elP at this
        congr 2
        show M i j = ((M i j).toNat : Int)
        omega
      have hmade := Lib.hid (World.rowIs_made wr (.int .i64 0) N 3)
      have hown := hrs.out.own
      have hii : (i : Int) < (n : Int) := by omega
      replace hcr2 := Lib.hid hcr2
      have hszI : Hid ((Try.prog.info? 3).map (·.size) = some 1) := by
        show _ = _
        kernel_rfl
      have hmin : Hid (m = Nat.min m N) := (Nat.min_eq_left hNm).symm
      clear hcs hcr hri hRe hbr
      rcases hNn with hm0 | ⟨hmp, hmn⟩
      · have hmb : ¬ (0 : Int) < mr := by have := hmr.out; omega
        replace hm0 := Lib.hid hm0
        go_wp2_with (first | (with_reducible refine wpList_copy_rowIs rfl (.tmp 21) (.tmp 22) 29 29 rfl 3 Try.underlying29 hszI.out wr.heap.size 0 N 3 _ hmade.out (some ⟨wr.heap.size, 0, none⟩) (some ⟨br, offr, none⟩) N N m (C i) m (fun j => .int .i64 (f j : Nat)) rfl rfl hmin.out (fun _ => ⟨rfl, br, offr, rfl, hcr2.out⟩) (by omega) (fun j _ => rfl) ?_; intro w2 hr2 hg2; have hN2 : New wr w2 := ((New.refl wr).alloc _).grown1 hg2 (Nat.le_refl _)) | (at_builtin; refine wpList_append_own _ rfl _ _ 104 rfl w.heap.size 29 i1 _ 1 24 Try.underlying104 hj0 hy0 hy1 hy2 rfl (by decide) _ i (rowsC G C' N i) rfl ((own_new hown hN2).alloc _) ⟨w2.heap.size, 0, none⟩ 1 1 [.slice (some ⟨wr.heap.size, 0, none⟩) N N] rfl rfl (World.news_of_block (cs := #[.slice _ _ _]) (t := 29) (fr := (0, 0)) (heap_alloc_new w2 _)) (by simp [Value.oneCell']) (by unfold maxLen; omega) (by omega) (by have := hnw.size; have := hN2.size; simp; omega) ?_; intro v4 w4 hown4 hgrow4 hnil4))
        have hrv : RowV w2 wr.heap.size N (besZ M m more i) := RowV.of_rowIs hr2.out fun k hk => by
          unfold cpF besZ
          have : k < m := by have := hN0.out; have := hm0.out; omega
          rw [if_pos ⟨Nat.zero_le _, by omega⟩, if_pos this, hf.out]
          rfl
        have hrs2 := Lib.hid (hrs.out.more hN2 (Nat.le_refl _) hrv hown4 hgrow4 ⟨Nat.le_refl _, by unfold maxLen; omega⟩)
        go_roundw
        case rel => exact ⟨i + 1, _, _, _, rfl, by go_num, by omega, hrs2.out⟩
        case measure => simp [intOf]; omega
      · have hmi : (0 : Int) < mr := by have := hmr.out; omega
        have j0 : (0 : Int) ≤ (m : Int) + (i : Int) := by omega
        have j1 : (m : Int) + (i : Int) < (N : Int) := by omega
        have j2 : ((m : Int) + (i : Int)).toNat = m + i := by omega
        go_wp2_with (first | (with_reducible refine wpList_copy_rowIs rfl (.tmp 21) (.tmp 22) 29 29 rfl 3 Try.underlying29 hszI.out wr.heap.size 0 N 3 _ hmade.out (some ⟨wr.heap.size, 0, none⟩) (some ⟨br, offr, none⟩) N N m (C i) m (fun j => .int .i64 (f j : Nat)) rfl rfl hmin.out (fun _ => ⟨rfl, br, offr, rfl, hcr2.out⟩) (by omega) (fun j _ => rfl) ?_; intro w2 hr2 hg2; have hN2 : New wr w2 := ((New.refl wr).alloc _).grown1 hg2 (Nat.le_refl _); have hc2 := hr2.out.cell (i := m + i) (by omega); have hf2 := hr2.out.frozen (m + i)) | (at_builtin; refine wpList_append_own _ rfl _ _ 104 rfl w.heap.size 29 i1 _ 1 24 Try.underlying104 hj0 hy0 hy1 hy2 rfl (by decide) _ i (rowsC G C' N i) rfl ((own_new hown (hN2.set (p := ⟨wr.heap.size, m + i, none⟩) (Nat.le_refl _) (.int .i64 1))).alloc _) ⟨w2.heap.size, 0, none⟩ 1 1 [.slice (some ⟨wr.heap.size, 0, none⟩) N N] rfl rfl (World.news_of_block (cs := #[.slice _ _ _]) (t := 29) (fr := (0, 0)) (by have := heap_alloc_new (w2.setCell ⟨wr.heap.size, m + i, none⟩ (.int .i64 1)) (.cells #[.slice (some ⟨wr.heap.size, 0, none⟩) N N] 29); simpa using this)) (by simp [Value.oneCell']) (by unfold maxLen; omega) (by omega) (by have := hnw.size; have := hN2.size; simp; omega) ?_; intro v4 w4 hown4 hgrow4 hnil4))
        have hrv : RowV (w2.setCell ⟨wr.heap.size, m + i, none⟩ (.int .i64 1)) wr.heap.size N (besZ M m more i) := RowV.of_rowIs (hr2.out.set (m + i) (.int .i64 1)) fun k hk => by
          unfold cpF besZ
          by_cases e : k = m + i
          · rw [if_pos e, if_neg (by omega), if_pos ⟨hmp, e⟩]
            rfl
          · rw [if_neg e]
            by_cases e2 : k < m
            · rw [if_pos ⟨Nat.zero_le _, by omega⟩, if_pos e2, hf.out]
              rfl
            · rw [if_neg (by omega), if_neg e2, if_neg (by omega)]
              rfl
        have hrs2 := Lib.hid (hrs.out.more (hN2.set (p := ⟨wr.heap.size, m + i, none⟩) (Nat.le_refl _) (.int .i64 1)) (Nat.le_refl _) hrv hown4 hgrow4 ⟨Nat.le_refl _, by unfold maxLen; omega⟩)
        go_roundw
        case rel => exact ⟨i + 1, _, _, _, rfl, by go_num, by omega, hrs2.out⟩
        case measure => simp [intOf]; omega
    · have hin : i = n := by omega
      subst hin
      have hii : ¬ (i : Int) < (i : Int) := by omega
      obtain ⟨o, cap, rfl, hcap, hmx⟩ := hrs.out.mx (by omega)
      have hpost : Hid (OwnPost i N (besZ M m more) w (.returned (.slice (some ⟨o, 0, none⟩) i cap)) wr) := ⟨o, cap, G, C', rfl, hcap, hmx, hrs.out.nw⟩
      clear hmx
      go_wp2
      go_ret
      exact hpost.out
end Go.Proofs.Ytjmjnodaohbpfaa.mat
