import Derived.Test.YtjmjnodaohbpfaaParRefEnc
import Derived.Test.YtjmjnodaohbpfaaParSolve
import Derived.Test.YtjmjnodaohbpfaaRowK
import Derived.Test.YtjmjnodaohbpfaaMatInv
import Derived.Test.YtjmjnodaohbpfaaStripeLayAll
import Derived.Deep.RegionLaw
import Derived.Deep.AppendLies
/-
  Plain words for columns that are rebuilt: which are lost, what is left, the code that is answered.
-/
namespace Go.Proofs.Ytjmjnodaohbpfaa.par
open Go.RowKit Go.Proofs.Ytjmjnodaohbpfaa.kit Go.Proofs.Ytjmjnodaohbpfaa.gf Go.Proofs.Ytjmjnodaohbpfaa.fld Go.Deep
set_option linter.unusedVariables false

/-- is a number among the first m? -/
def hasD (D : Nat → Int) (m : Nat) (k : Int) : Bool := (List.range m).any fun t => decide (D t = k)
theorem hasD_iff {D : Nat → Int} {m : Nat} {k : Int} : hasD D m k = true ↔ ∃ t, t < m ∧ D t = k := by simp [hasD]
theorem hasD_zero (D : Nat → Int) (k : Int) : hasD D 0 k = false := rfl
theorem hasD_succ (D : Nat → Int) (m : Nat) (k : Int) : hasD D (m + 1) k = (hasD D m k || decide (D m = k)) := by
  unfold hasD
  rw [List.range_succ, List.any_append]
  simp
theorem hasD_false {D : Nat → Int} {m : Nat} {k : Int} : hasD D m k = false ↔ ∀ t, t < m → D t ≠ k := by
  rw [← Bool.not_eq_true, hasD_iff]
  exact ⟨fun h t ht e => h ⟨t, ht, e⟩, fun h ⟨t, ht, e⟩ => h t ht e⟩
/-- the columns that are left -/
def lf (G : Nat → Bool) (n : Nat) : List Nat := (List.range n).filter fun k => !G k
theorem lf_keep {G : Nat → Bool} {n : Nat} (h : G n = false) : lf G (n + 1) = lf G n ++ [n] := by
  unfold lf
  rw [List.range_succ, List.filter_append]
  simp [h]
theorem lf_drop {G : Nat → Bool} {n : Nat} (h : G n = true) : lf G (n + 1) = lf G n := by
  unfold lf
  rw [List.range_succ, List.filter_append]
  simp [h]
theorem lf_len (G : Nat → Bool) (n : Nat) : (lf G n).length ≤ n := by
  unfold lf
  have := List.length_filter_le (fun k => !G k) (List.range n)
  simpa using this
theorem lf_mem {G : Nat → Bool} {n k : Nat} : k ∈ lf G n ↔ k < n ∧ G k = false := by simp [lf]
theorem lf_congr {G G' : Nat → Bool} {n : Nat} (h : ∀ k, k < n → G k = G' k) : lf G n = lf G' n := by
  unfold lf
  exact List.filter_congr fun k hk => by rw [h k (List.mem_range.1 hk)]
/-- are the columns that are left of one length, that is not too long? -/
def lOK (G : Nat → Bool) (L : Nat → Nat) (N : Nat) : Bool := evB (lf G N).length fun j => L ((lf G N).getD j 0)
theorem lf_at {G : Nat → Bool} {n j : Nat} (h : j < (lf G n).length) : (lf G n).getD j 0 < n ∧ G ((lf G n).getD j 0) = false := by
  have h1 : (lf G n).getD j 0 = (lf G n)[j] := by simp [List.getD, h]
  rw [h1]
  exact lf_mem.1 (List.getElem_mem h)
theorem lf_idx {G : Nat → Bool} {n k : Nat} (hk : k < n) (hG : G k = false) : ∃ j, j < (lf G n).length ∧ (lf G n).getD j 0 = k := by
  obtain ⟨j, hj, he⟩ := List.getElem_of_mem (lf_mem.2 ⟨hk, hG⟩ : k ∈ lf G n)
  exact ⟨j, hj, by simp [List.getD, hj, he]⟩
/-- the length of the first column that is left -/
def lSize (G : Nat → Bool) (L : Nat → Nat) (N : Nat) : Nat := L ((lf G N).getD 0 0)
theorem lOK_out {G : Nat → Bool} {L : Nat → Nat} {N : Nat} (h : lOK G L N = true) : ∀ k, k < N → G k = false → L k = lSize G L N ∧ L k ≤ 4096 := by
  intro k hk hG
  obtain ⟨j, hj, rfl⟩ := lf_idx hk hG
  exact evB_out h j hj
theorem lOK_bad {G : Nat → Bool} {L : Nat → Nat} {N k : Nat} (hk : k < N) (hG : G k = false) (h : L k ≠ lSize G L N ∨ 4096 < L k) : lOK G L N = false := by
  obtain ⟨j, hj, rfl⟩ := lf_idx hk hG
  refine evB_bad hj fun ⟨h1, h2⟩ => ?_
  rcases h with h | h
  · exact h h1
  · exact absurd (show L ((lf G N).getD j 0) ≤ 4096 from h2) (by omega)
theorem lOK_in {G : Nat → Bool} {L : Nat → Nat} {N : Nat} (h : ∀ k, k < N → G k = false → L k = lSize G L N ∧ L k ≤ 4096) : lOK G L N = true :=
  evB_true fun j hj => h _ (lf_at hj).1 (lf_at hj).2
theorem lSize_first {G : Nat → Bool} {L : Nat → Nat} {N i : Nat} (hi : i < N) (h0 : lf G i = []) (hG : G i = false) : lSize G L N = L i := by
  have h1 : ∀ d, (lf G (i + 1 + d)).getD 0 0 = i := fun d => by
    induction d with
    | zero => rw [Nat.add_zero, lf_keep hG, h0]; rfl
    | succ d ih =>
      have hne : lf G (i + 1 + d) ≠ [] := fun e => by
        have : i ∈ lf G (i + 1 + d) := lf_mem.2 ⟨by omega, hG⟩
        rw [e] at this; cases this
      rw [show i + 1 + (d + 1) = i + 1 + d + 1 by omega]
      cases hg : G (i + 1 + d) with
      | true => rw [lf_drop hg]; exact ih
      | false =>
        rw [lf_keep hg]
        obtain ⟨x, l, hl⟩ := List.exists_cons_of_ne_nil hne
        rw [hl] at ih ⊢
        exact ih
  unfold lSize
  rw [show N = i + 1 + (N - (i + 1)) by omega, h1]
theorem lSize_later {G : Nat → Bool} {L : Nat → Nat} {N i : Nat} (hi : i ≤ N) (h0 : lf G i ≠ []) : lSize G L N = lSize G L i := by
  have h1 : ∀ d, (lf G (i + d)).getD 0 0 = (lf G i).getD 0 0 ∧ lf G (i + d) ≠ [] := fun d => by
    induction d with
    | zero => exact ⟨rfl, h0⟩
    | succ d ih =>
      rw [show i + (d + 1) = i + d + 1 by omega]
      cases hg : G (i + d) with
      | true => rw [lf_drop hg]; exact ih
      | false =>
        rw [lf_keep hg]
        obtain ⟨x, l, hl⟩ := List.exists_cons_of_ne_nil ih.2
        rw [hl] at ih ⊢
        exact ⟨ih.1, by simp⟩
  unfold lSize
  rw [show N = i + (N - i) by omega, (h1 _).1]
/-- the code: ahead of the lost -/
def rgP (N : Nat) (p : Int) : Prop := 1 ≤ p ∧ p ≤ 3 ∧ p + 1 ≤ N ∧ (N : Int) ≤ 12 + p
instance (N : Nat) (p : Int) : Decidable (rgP N p) := by unfold rgP; infer_instance
def outP (N : Nat) (D : Nat → Int) (t : Nat) : Prop := D t < 0 ∨ (N : Int) ≤ D t
instance (N : Nat) (D : Nat → Int) (t : Nat) : Decidable (outP N D t) := by unfold outP; infer_instance
def outD (N : Nat) (D : Nat → Int) (m : Nat) : Bool := (List.range m).any fun t => decide (outP N D t)
theorem outD_false {N : Nat} {D : Nat → Int} {m : Nat} : outD N D m = false ↔ ∀ t, t < m → ¬ outP N D t := by simp [outD]
theorem outD_true {N : Nat} {D : Nat → Int} {m : Nat} : outD N D m = true ↔ ∃ t, t < m ∧ outP N D t := by simp [outD]
def dupD (D : Nat → Int) (m : Nat) : Bool := (List.range m).any fun t => hasD D t (D t)
theorem dupD_false {D : Nat → Int} {m : Nat} : dupD D m = false ↔ ∀ t, t < m → hasD D t (D t) = false := by simp [dupD]
theorem dupD_true {D : Nat → Int} {m : Nat} : dupD D m = true ↔ ∃ t, t < m ∧ hasD D t (D t) = true := by simp [dupD]
theorem dupD_succ (D : Nat → Int) (m : Nat) : dupD D (m + 1) = (dupD D m || hasD D m (D m)) := by
  unfold dupD
  rw [List.range_succ, List.any_append]
  simp
/-- which are gone -/
def gn (D : Nat → Int) (m : Nat) : Nat → Bool := fun k => hasD D m k
def rbCode (N : Nat) (L : Nat → Nat) (p : Int) (D : Nat → Int) (m : Nat) : Int :=
  if ¬ rgP N p then 2 else if lOK (gn D m) L N = false then 4 else if outD N D m = true then 2 else if dupD D m = true then 7 else if p < m then 12 else 0
end Go.Proofs.Ytjmjnodaohbpfaa.par

/-
  Contracts of par.left and par.refused.
-/
namespace Go.Proofs.Ytjmjnodaohbpfaa.par
open Go.ChangeShapes Go.WideShapes Go.ChangeAt Go.RowKit Go.Proofs.Ytjmjnodaohbpfaa.kit Go.Proofs.Ytjmjnodaohbpfaa.gf Go.Deep
set_option linter.unusedVariables false
set_option maxRecDepth 100000

/-- rows of a list of numbers of rows -/
def rowsAt (R : Nat → Option Addr) (L C : Nat → Nat) (l : List Nat) : List Value := l.map fun k => .slice (R k) (L k) (C k)
theorem rowsAt_one (R : Nat → Option Addr) (L C : Nat → Nat) (l : List Nat) : ∀ u ∈ rowsAt R L C l, u.oneCell' = true := fun u hu => by
  obtain ⟨k, _, rfl⟩ := List.mem_map.1 hu
  rfl
theorem left_rdM {w : World} {base : Nat} {t : TypeId} {v : Value} {A : Option Addr} {N : Nat} {R : Nat → Option Addr} {L C : Nat → Nat} {M : Nat → Nat → Int} {l : List Nat} (h : RdM .u8 w A N R L C M) (ho : w.ownsRow base t 1 v l.length (rowsAt R L C l)) (hl : ∀ k, k ∈ l → k < N) :
    ∃ A' c', v = .slice A' l.length c' ∧ RdM .u8 w A' l.length (fun j => R (l.getD j 0)) (fun j => L (l.getD j 0)) (fun j => C (l.getD j 0)) (fun j => M (l.getD j 0)) := by
  obtain ⟨A', c', rfl, h1, h2, h3, h4⟩ := own_open ho
  refine ⟨A', c', rfl, by omega, fun h0 => ?_, fun j hj => ?_⟩
  · obtain ⟨g, rfl, _, hg⟩ := h3 h0
    refine ⟨g, 0, rfl, hg, fun j hj => ?_⟩
    have := h4 g rfl j (.slice (R (l.getD j 0)) (L (l.getD j 0)) (C (l.getD j 0))) (by simp [rowsAt, List.getD, hj])
    simpa using this
  · have hm : l.getD j 0 ∈ l := by
      have : l.getD j 0 = l[j] := by simp [List.getD, hj]
      rw [this]; exact List.getElem_mem hj
    exact h.2.2 _ (hl _ hm)
def boV (G : Nat → Bool) : Nat → Value := fun k => .bool (G k)
theorem left_any (g N c d : Nat) (A : Option Addr) (G : Nat → Bool) (R : Nat → Option Addr) (L C : Nat → Nat) (M : Nat → Nat → Int) (w : World) (h : RdM .u8 w A N R L C M) (hg : w.rowIs g 4 N (boV G)) (hN : N ≤ 15) :
    Calls Try.prog 28 #[.slice A N c, .slice (some ⟨g, 0, none⟩) N d] w fun e w' => (∃ A' c', e = .returned (.slice A' (lf G N).length c') ∧ RdM .u8 w' A' (lf G N).length (fun j => R ((lf G N).getD j 0)) (fun j => L ((lf G N).getD j 0)) (fun j => C ((lf G N).getD j 0)) (fun j => M ((lf G N).getD j 0))) ∧ New w w' := by
  obtain ⟨i1, hj0, hy0, hy1, hy2⟩ := info_parts info32
  have h0 := Lib.hid h
  have hg0 := Lib.hid hg
  clear h hg
  go_enter Try.func28, Try.ntmps28
  go_wp2
  go_loopw [10, 5] (fun x o wr => ∃ i : Nat, x = .int .i64 i ∧ i ≤ N ∧ wr.ownsRow w.heap.size 32 1 o (lf G i).length (rowsAt R L C (lf G i)) ∧ Hid (New w wr)) (fun x _ _ => N - (intOf x).toNat)
  case atStart => exact ⟨0, rfl, by omega, World.ownsRow_nil _ _ _ _, New.refl w⟩
  case round =>
    obtain ⟨i, rfl, hi, hown, hnw⟩ := hrel
    obtain ⟨w1, rfl⟩ : ∃ w1, w1 = wr := ⟨wr, rfl⟩
    by_cases hlt : i < N
    · obtain ⟨b, off, rfl, hb, hcs⟩ := h0.out.2.1 (by omega)
      have c0 := (hnw.out.cell hb).trans (hcs i hlt)
      have c1 : w1.cell? ⟨g, i, none⟩ = some (.bool (G i)) := (row_new hg0.out hnw.out).cell hlt
      have a0 : (0 : Int) ≤ (i : Int) := by omega
      have a1 : (i : Int) < (N : Int) := by omega
      clear hcs
      cases hG : G i with
      | true =>
        rw [hG] at c1
        have hown1 : Hid (w1.ownsRow w.heap.size 32 1 u5 (lf G (i + 1)).length (rowsAt R L C (lf G (i + 1)))) := by rw [lf_drop hG]; exact hown
        clear hown hG
        go_wp2
        go_roundw
        case rel => exact ⟨i + 1, by go_num, by omega, hown1.out, hnw.out⟩
        case measure => simp [intOf]; omega
      | false =>
        rw [hG] at c1
        have hll : (lf G i).length ≤ i := lf_len G i
        have hlf := Lib.hid (lf_keep hG)
        clear hG
        obtain ⟨l, hl⟩ : ∃ l, Hid (l = lf G i) := ⟨_, rfl⟩
        rw [← hl.out] at hown hll hlf
        go_wp2_with (at_builtin; refine wpList_append_own _ rfl _ _ 22 rfl w.heap.size 32 i1 _ 1 24 Try.underlying22 hj0 hy0 hy1 hy2 rfl (by decide) _ l.length _ rfl (hown.alloc _) ⟨w1.heap.size, 0, none⟩ 1 1 [.slice (R i) (L i) (C i)] rfl rfl (World.news_of_block (cs := #[.slice _ _ _]) (t := 32) (fr := (0, 0)) (heap_alloc_new w1 _)) (by simp [Value.oneCell']) (by unfold maxLen; omega) (by omega) (by have := hnw.out.size; simp; omega) ?_; intro v3 w3 hown3 hgrow hnil)
        have hN3 : Hid (New w w3) := hnw.out.append' hgrow fun g hg => (hown.lt _ hg).1
        have hown4 : Hid (w3.ownsRow w.heap.size 32 1 v3 (lf G (i + 1)).length (rowsAt R L C (lf G (i + 1)))) := by
          rw [hlf.out, List.length_append]
          unfold rowsAt at hown3 ⊢
          rw [List.map_append]
          exact hown3
        clear hown hown3 hgrow hnil
        go_wp2
        go_roundw
        case rel => exact ⟨i + 1, by go_num, by omega, hown4.out, hN3.out⟩
        case measure => simp [intOf]; omega
    · have hin : i = N := by omega
      subst hin
      obtain ⟨A', c', rfl, hM⟩ := left_rdM (h0.out.new hnw.out) hown (fun k hk => (lf_mem.1 hk).1)
      have hfin := Lib.hid (And.intro hM hnw.out)
      clear hown hM
      go_wp2
      go_ret
      exact ⟨⟨A', c', rfl, hfin.out.1⟩, hfin.out.2⟩
theorem refused_any (N c m d : Nat) (cd : Int) (A B : Option Addr) (D : Nat → Int) (R : Nat → Option Addr) (L C : Nat → Nat) (M : Nat → Nat → Int) (w : World) (h : RdM .u8 w A N R L C M) (hD : RdI .i64 w B m D) (hN : N ≤ 15) :
    Calls Try.prog 27 #[.slice A N c, .slice B m d, .int .i64 cd] w fun e w' => e = .returned (.tuple #[.slice none 0 0, .int .i64 (if lOK (gn D m) L N = true then cd else 4)]) ∧ New w w' := by
  have h0 := Lib.hid h
  have hD0 := Lib.hid hD
  have hm := hD.1
  unfold maxLen at hm
  have hmk := run_make_row' (P := Try.prog) 48 4 (.bool false) 1 Try.underlying48 (by kernel_rfl) rfl .i64 .i64 N (by omega) (by omega)
  have hrow0 : Hid ((w.alloc (.cells (madeCells #[.bool false] N) 4)).rowIs w.heap.size 4 N (boV (gn D 0))) := (World.rowIs_made w (.bool false) N 4).congr fun i _ => rfl
  clear h hD
  go_enter Try.func27, Try.ntmps27
  go_wp2
  go_loopw [16] (fun x wr => ∃ i : Nat, x = .int .i64 i ∧ i ≤ m ∧ Hid (wr.rowIs w.heap.size 4 N (boV (gn D i))) ∧ Hid (New w wr)) (fun x _ => m - (intOf x).toNat)
  case atStart => exact ⟨0, rfl, by omega, hrow0.out, (New.refl w).alloc _⟩
  case round =>
    obtain ⟨i, rfl, hi, hrow, hnw⟩ := hrel
    obtain ⟨w1, rfl⟩ : ∃ w1, w1 = wr := ⟨wr, rfl⟩
    by_cases hlt : i < m
    · obtain ⟨b, off, rfl, hb, hcs⟩ := hD0.out.2 (by omega)
      have c0 := (hnw.out.cell hb).trans (hcs i hlt)
      have a0 : (0 : Int) ≤ (i : Int) := by omega
      have a1 : (i : Int) < (m : Int) := by omega
      clear hcs
      by_cases hin : 0 ≤ D i ∧ D i < N
      · obtain ⟨q, hq⟩ : ∃ q : Nat, D i = (q : Int) := ⟨(D i).toNat, by omega⟩
        rw [hq] at hin c0
        have hq2 : (q : Int) < (N : Int) := hin.2
        have hqn : q < N := by omega
        have e0 : (0 : Int) ≤ (q : Int) := by omega
        have hf := hrow.out.frozen q
        have hc := hrow.out.cell hqn
        have hrow2 : Hid ((w1.setCell ⟨w.heap.size, q, none⟩ (.bool true)).rowIs w.heap.size 4 N (boV (gn D (i + 1)))) := (hrow.out.set q (.bool true)).congr fun k hk => by
          unfold boV gn
          rw [hasD_succ, hq]
          by_cases hkq : k = q
          · subst hkq; simp
          · rw [if_neg hkq, decide_eq_false (by omega), Bool.or_false]
        have hnw2 : Hid (New w (w1.setCell ⟨w.heap.size, q, none⟩ (.bool true))) := hnw.out.set (Nat.le_refl _) _
        have hbv : boV (gn D i) q = .bool (gn D i q) := rfl
        rw [hbv] at hc
        clear hin hq hbv
        generalize gn D i q = bq at hc
        go_wp2
        go_roundw
        case rel => exact ⟨i + 1, by go_num, by omega, hrow2.out, hnw2.out⟩
        case measure => simp [intOf]; omega
      · have hrow2 : Hid (w1.rowIs w.heap.size 4 N (boV (gn D (i + 1)))) := hrow.out.congr fun k hk => by
          unfold boV gn
          rw [hasD_succ, decide_eq_false (by intro e; apply hin; rw [e]; omega), Bool.or_false]
        by_cases hneg : 0 ≤ D i
        · have hge : ¬ D i < (N : Int) := fun h => hin ⟨hneg, h⟩
          generalize D i = di at *
          clear hin
          go_wp2
          go_roundw
          case rel => exact ⟨i + 1, by go_num, by omega, hrow2.out, hnw.out⟩
          case measure => simp [intOf]; omega
        · generalize D i = di at *
          clear hin
          go_wp2
          go_roundw
          case rel => exact ⟨i + 1, by go_num, by omega, hrow2.out, hnw.out⟩
          case measure => simp [intOf]; omega
    · have hin : i = m := by omega
      subst hin
      have hleft := Lib.hid (left_any w.heap.size N c N A (gn D i) R L C M w1 (h0.out.new hnw.out) hrow.out hN)
      go_wp2_with fail
      refine hleft.out.mono ?_
      rintro e w2 ⟨⟨A', c', rfl, hM2⟩, hn2⟩
      have hM20 := Lib.hid hM2
      have hn20 := Lib.hid hn2
      clear hM2 hn2 hleft
      obtain ⟨cn, hcn⟩ : ∃ cn, Hid (cn = (lf (gn D i) N).length) := ⟨_, rfl⟩
      have hev : Hid (∀ w', New w2 w' → Calls Try.prog 22 #[.slice A' cn c'] w' fun e w'' => e = .returned (.bool (lOK (gn D i) L N)) ∧ New w' w'') := fun w' hn => by
        rw [hcn.out]; exact even_any _ _ _ _ _ _ _ w' (hM20.out.new hn)
      rw [← hcn.out]
      cases hok : lOK (gn D i) L N with
      | true =>
        rw [hok] at hev
        go_wp2_with fail
        refine (hev.out _ (New.refl _)).mono ?_
        rintro e w3 ⟨rfl, hn3⟩
        have hfin := Lib.hid ((hnw.out.next hn20.out).next hn3)
        clear hn3
        go_wp2
        go_ret2
        exact ⟨rfl, hfin.out⟩
      | false =>
        rw [hok] at hev
        go_wp2_with fail
        refine (hev.out _ (New.refl _)).mono ?_
        rintro e w3 ⟨rfl, hn3⟩
        have hfin := Lib.hid ((hnw.out.next hn20.out).next hn3)
        clear hn3
        go_wp2
        all_goals go_ret2
        all_goals exact ⟨rfl, hfin.out⟩
end Go.Proofs.Ytjmjnodaohbpfaa.par

/-
  Contract of par.fill: lost data columns, by as many parity columns.
-/
namespace Go.Proofs.Ytjmjnodaohbpfaa.par
open Go.ChangeShapes Go.WideShapes Go.ChangeAt Go.RowKit Go.Proofs.Ytjmjnodaohbpfaa.kit Go.Proofs.Ytjmjnodaohbpfaa.gf Go.Proofs.Ytjmjnodaohbpfaa.fld Go.Deep
set_option linter.unusedVariables false
set_option maxRecDepth 100000

theorem fcN_fcP (j i : Nat) : fcN j i = fcP j i := rfl
/-- is it there, or will it be? -/
abbrev Pr (n : Nat) (G : Nat → Bool) (k : Nat) : Prop := k < n ∨ G k = false
/-- has it a block? -/
abbrev Bk (sz n : Nat) (G : Nat → Bool) (k : Nat) : Prop := Pr n G k ∧ (0 < sz ∨ (k < n ∧ G k = true))
/-- the columns that are being rebuilt, the first N of M: the data columns, and the parity columns that were not lost -/
structure RO (w0 : World) (o M N n sz hi : Nat) (G : Nat → Bool) (V : Nat → Value) (Ad : Nat → Option Addr) (Gr Cp : Nat → Nat) (F : Nat → Nat → Nat) (w : World) : Prop where
  nw : New w0 w
  out : w.rowIs o 32 M V
  old : w0.heap.size ≤ o ∧ o < hi
  val : ∀ k, k < N → Pr n G k → V k = .slice (Ad k) sz (Cp k) ∧ sz ≤ Cp k ∧ Cp k ≤ maxLen
  row : ∀ k, k < N → Pr n G k → 0 < sz → Ad k = some ⟨Gr k, 0, none⟩ ∧ RowK 5 .u8 w (Gr k) sz (F k)
  hole : ∀ k, k < N → k < n → G k = true → Ad k = some ⟨Gr k, 0, none⟩ ∧ w.rowIs (Gr k) 5 sz (byV (F k))
  inj : ∀ k l, k < N → l < N → Bk sz n G k → Bk sz n G l → k ≠ l → Gr k ≠ Gr l
  lo : ∀ k, k < N → Bk sz n G k → w0.heap.size ≤ Gr k ∧ Gr k < hi
  by_ : ∀ k t, F k t < 256
section
variable {w0 w w' : World} {o M N n sz hi : Nat} {G : Nat → Bool} {V : Nat → Value} {Ad : Nat → Option Addr} {Gr Cp : Nat → Nat} {F F' : Nat → Nat → Nat}
theorem RO.new (h : RO w0 o M N n sz hi G V Ad Gr Cp F w) (hn : New w w') : RO w0 o M N n sz hi G V Ad Gr Cp F w' :=
  ⟨h.nw.next hn, row_new h.out hn, h.old, h.val, fun k a b c => ⟨(h.row k a b c).1, (h.row k a b c).2.new hn⟩, fun k a b c => ⟨(h.hole k a b c).1, row_new (h.hole k a b c).2 hn⟩, h.inj, h.lo, h.by_⟩
theorem RO.later {hi' : Nat} (h : RO w0 o M N n sz hi G V Ad Gr Cp F w) (hh : hi ≤ hi') : RO w0 o M N n sz hi' G V Ad Gr Cp F w :=
  ⟨h.nw, h.out, ⟨h.old.1, by have := h.old.2; omega⟩, h.val, h.row, h.hole, h.inj, fun k a b => ⟨(h.lo k a b).1, by have := (h.lo k a b).2; omega⟩, h.by_⟩
theorem RO.congr (h : RO w0 o M N n sz hi G V Ad Gr Cp F w) (he : ∀ k t, k < N → Pr n G k → t < sz → F k t = F' k t) (hb : ∀ k t, F' k t < 256) : RO w0 o M N n sz hi G V Ad Gr Cp F' w :=
  ⟨h.nw, h.out, h.old, h.val, fun k a b c => ⟨(h.row k a b c).1, (h.row k a b c).2.congr fun t ht => he k t a b ht⟩, fun k a b c => ⟨(h.hole k a b c).1, (h.hole k a b c).2.congr fun t ht => by unfold byV; rw [he k t a (.inl b) ht]⟩, h.inj, h.lo, hb⟩
theorem row_typ {w : World} {a b : Nat} {t e : TypeId} {m n : Nat} {f F : Nat → Value} (h : w.rowIs a t m f) (ho : w.rowIs b e n F) (hne : e ≠ t) : b ≠ a := by
  intro he
  subst he
  obtain ⟨c, hc, _⟩ := ho
  obtain ⟨d, hd, _⟩ := h
  rw [hc] at hd
  injection hd with h1
  injection h1 with _ h1 _
  exact hne h1
theorem RO.mixed (h : RO w0 o M N n sz hi G V Ad Gr Cp F w) {k : Nat} (hkN : k < N) (hk : k < n) (hG : G k = true) {f : Nat → Nat} (hg : w.grownBy w' (some (Gr k))) (hr : w'.rowIs (Gr k) 5 sz (byV f)) (hb : ∀ t, f t < 256) :
    RO w0 o M N n sz hi G V Ad Gr Cp (fun i => if i = k then f else F i) w' := by
  refine ⟨h.nw.grown1 hg (h.lo k hkN ⟨.inl hk, .inr ⟨hk, hG⟩⟩).1, row_grown h.out hg (fun e => row_typ (h.hole k hkN hk hG).2 h.out (by decide) (by cases e; rfl)), h.old, h.val, fun i a b c => ⟨(h.row i a b c).1, ?_⟩, fun i a b c => ⟨(h.hole i a b c).1, ?_⟩, h.inj, h.lo, fun i t => ?_⟩
  · by_cases e : i = k
    · subst e
      rw [if_pos rfl]
      exact RowK.of_rowIs hr (Nat.le_refl _) fun j hj => rfl
    · rw [if_neg e]
      exact (h.row i a b c).2.grown hg (by have := h.inj k i hkN a ⟨.inl hk, .inr ⟨hk, hG⟩⟩ ⟨b, .inl c⟩ (fun x => e x.symm); simpa using this)
  · by_cases e : i = k
    · subst e
      rw [if_pos rfl]
      exact hr
    · rw [if_neg e]
      exact row_grown (h.hole i a b c).2 hg (by have := h.inj k i hkN a ⟨.inl hk, .inr ⟨hk, hG⟩⟩ ⟨.inl b, .inr ⟨b, c⟩⟩ (fun x => e x.symm); simpa using this)
  · show (if i = k then f else F i) t < 256
    by_cases e : i = k
    · rw [if_pos e]; exact hb t
    · rw [if_neg e]; exact h.by_ i t
theorem RO.rdI (h : RO w0 o M N n sz hi G V Ad Gr Cp F w) (hs : sz ≤ 4096) {k : Nat} (hk : k < N) (hp : Pr n G k) : RdI .u8 w (Ad k) sz (fun t => (F k t : Nat)) :=
  ⟨by unfold maxLen; omega, fun h0 => by
    obtain ⟨h1, h2⟩ := h.row k hk hp h0
    rw [h1]
    exact (h2.rdI (by unfold maxLen; omega)).2 h0⟩
theorem RO.rdM (h : RO w0 o M N n sz hi G V Ad Gr Cp F w) (hnN : n ≤ N) (hNM : N ≤ M) (hN : M ≤ 15) (hs : sz ≤ 4096) : RdM .u8 w (some ⟨o, 0, none⟩) n Ad (fun _ => sz) Cp (fun k t => (F k t : Nat)) :=
  ⟨by unfold maxLen; omega, fun _ => ⟨o, 0, rfl, h.out.lt, fun k hk => by rw [Nat.zero_add, h.out.cell (by omega), (h.val k (by omega) (.inl hk)).1]⟩,
    fun k hk => ⟨h.rdI hs (by omega) (.inl hk), (h.val k (by omega) (.inl hk)).2⟩⟩
theorem RO.far {row : Option Nat} (h : RO w0 o M N n sz hi G V Ad Gr Cp F w) (hg : w.grownBy w' row) (hr : ∀ r, row = some r → hi ≤ r) : RO w0 o M N n sz hi G V Ad Gr Cp F w' := by
  have hne : ∀ k, k < N → Bk sz n G k → row ≠ some (Gr k) := fun k a b e => by have := hr _ e; have := (h.lo k a b).2; omega
  refine ⟨h.nw.grown hg (fun g e => by have := hr _ e; have := h.old; omega), row_grown h.out hg (fun e => by have := hr _ e; have := h.old; omega), h.old, h.val, fun k a b c => ⟨(h.row k a b c).1, (h.row k a b c).2.grown hg (hne k a ⟨b, .inl c⟩)⟩, fun k a b c => ⟨(h.hole k a b c).1, row_grown (h.hole k a b c).2 hg (hne k a ⟨.inl b, .inr ⟨b, c⟩⟩)⟩, h.inj, h.lo, h.by_⟩
end
/-- numbers of another kind lie elsewhere -/
theorem rdI_far {w w' : World} {A : Option Addr} {m O sz : Nat} {Z : Nat → Int} {f : Nat → Nat} (h : RdI .i64 w A m Z) (ho : w.rowIs O 5 sz (byV f)) (hg : w.grownBy w' (some O)) : RdI .i64 w' A m Z :=
  ⟨h.1, fun h0 => by
    obtain ⟨b, off, hA, hb, hc⟩ := h.2 h0
    have hne : b ≠ O := by
      intro e
      subst e
      have h1 := hc 0 h0
      obtain ⟨cs, h2, h3, h4⟩ := ho
      rw [Nat.add_zero, cell_of_row w b off cs _ _ h2] at h1
      have hl : off < sz := by have := (Array.getElem?_eq_some_iff.1 h1).1; omega
      rw [h4 off hl] at h1
      cases h1
    exact ⟨b, off, hA, Nat.lt_of_lt_of_le hb hg.size, fun i hi => (hg.cell_far ⟨b, off + i, none⟩ hb (by simp; exact hne)).trans (hc i hi)⟩⟩
theorem rdM_far {w w' : World} {A : Option Addr} {n O sz : Nat} {R : Nat → Option Addr} {L C : Nat → Nat} {M : Nat → Nat → Int} {f : Nat → Nat} (h : RdM .i64 w A n R L C M) (ho : w.rowIs O 5 sz (byV f)) (hg : w.grownBy w' (some O)) : RdM .i64 w' A n R L C M :=
  ⟨h.1, fun h0 => by
    obtain ⟨b, off, hA, hb, hc⟩ := h.2.1 h0
    have hne : b ≠ O := by
      intro e
      subst e
      have h1 := hc 0 h0
      obtain ⟨cs, h2, h3, h4⟩ := ho
      rw [Nat.add_zero, cell_of_row w b off cs _ _ h2] at h1
      have hl : off < sz := by have := (Array.getElem?_eq_some_iff.1 h1).1; omega
      rw [h4 off hl] at h1
      cases h1
    exact ⟨b, off, hA, Nat.lt_of_lt_of_le hb hg.size, fun i hi => (hg.cell_far ⟨b, off + i, none⟩ hb (by simp; exact hne)).trans (hc i hi)⟩, fun i hi => ⟨rdI_far (h.2.2 i hi).1 ho hg, (h.2.2 i hi).2⟩⟩
def rowsD (G C : Nat → Nat) (m k : Nat) : List Value := (List.range k).map fun i => .slice (some ⟨G i, 0, none⟩) m (C i)
theorem rowsD_succ (G C : Nat → Nat) (m k g c : Nat) : rowsD (fun i => if i = k then g else G i) (fun i => if i = k then c else C i) m (k + 1) = rowsD G C m k ++ [.slice (some ⟨g, 0, none⟩) m c] := by
  unfold rowsD
  rw [List.range_succ, List.map_append]
  congr 1
  · apply List.map_congr_left
    intro i hi
    have : i ≠ k := by have := List.mem_range.1 hi; omega
    simp [this]
  · simp
theorem rowsD_len (G C : Nat → Nat) (m k : Nat) : (rowsD G C m k).length = k := by simp [rowsD]
/-- what the data columns miss in a parity column -/
def wantF (n : Nat) (M : Nat → Nat → Nat) (U : Nat → Nat) (b t : Nat) : Nat := enN (U b) (fun i t => (M i t : Nat)) n t ^^^ M (n + U b) t
/-- the matrix of the factors -/
def facM (U H : Nat → Nat) : Nat → Nat → Nat := fun a b => fcP (U a) (H b)
/-- what has been filled -/
def fillF (X : Nat → Nat → Nat) (W : Nat → Nat → Nat) (h : Nat) (H : Nat → Nat) (F : Nat → Nat → Nat) : Nat → Nat → Nat → Nat
  | 0 => F
  | a + 1 => fun k => if k = H a then (fun t => xs h fun b => mul (X a b) (W b t)) else fillF X W h H F a k
theorem fillF_other {X W : Nat → Nat → Nat} {h : Nat} {H : Nat → Nat} {F : Nat → Nat → Nat} : ∀ {a k : Nat}, (∀ q, q < a → H q ≠ k) → fillF X W h H F a k = F k
  | 0, _, _ => rfl
  | a + 1, k, hq => by
    show (if k = H a then _ else fillF X W h H F a k) = F k
    rw [if_neg (fun e => hq a (by omega) e.symm), fillF_other fun q hq' => hq q (by omega)]
theorem fillF_lt {X W : Nat → Nat → Nat} {h : Nat} {H : Nat → Nat} {F : Nat → Nat → Nat} (hX : ∀ a b, a < h → b < h → X a b < 256) (hF : ∀ k t, F k t < 256) : ∀ {a : Nat}, a ≤ h → ∀ k t, fillF X W h H F a k t < 256
  | 0, _, k, t => hF k t
  | a + 1, ha, k, t => by
    show (if k = H a then (fun t => xs h fun b => mul (X a b) (W b t)) else fillF X W h H F a k) t < 256
    by_cases e : k = H a
    · rw [if_pos e]
      exact xs_lt fun b hb => mul_lt _ _ (hX a b (by omega) hb)
    · rw [if_neg e]
      exact fillF_lt hX hF (by omega) k t
/-- the first loop's memory -/
structure FA (w0 w1 : World) (o N n sz : Nat) (G : Nat → Bool) (V : Nat → Value) (Ad : Nat → Option Addr) (Gr Cp : Nat → Nat) (F : Nat → Nat → Nat) (h : Nat) (U H : Nat → Nat) (b : Nat) (mv wv : Value) (Gm Cm Gw : Nat → Nat) (w : World) : Prop where
  ro : RO w0 o N N n sz w1.heap.size G V Ad Gr Cp F w
  nw : New w1 w
  m : w.ownsRow w1.heap.size 29 1 mv b (rowsD Gm Cm h b)
  mr : ∀ i, i < b → RowK 3 .i64 w (Gm i) h (fun q => fcP (U i) (H q)) ∧ h ≤ Cm i ∧ Cm i ≤ maxLen
  wn : w.ownsRow w1.heap.size 32 1 wv b (rowsD Gw (fun _ => sz) sz b)
  wr : ∀ i, i < b → w.rowIs (Gw i) 5 sz (byV (wantF n F U i))
  wlo : ∀ i, i < b → w1.heap.size ≤ Gw i
section
variable {w0 w1 w w' w'' : World} {o N n sz : Nat} {G : Nat → Bool} {V : Nat → Value} {Ad : Nat → Option Addr} {Gr Cp : Nat → Nat} {F : Nat → Nat → Nat} {h : Nat} {U H : Nat → Nat} {b : Nat} {mv wv : Value} {Gm Cm Gw : Nat → Nat}
theorem FA.new (hh : FA w0 w1 o N n sz G V Ad Gr Cp F h U H b mv wv Gm Cm Gw w) (hn : New w w') : FA w0 w1 o N n sz G V Ad Gr Cp F h U H b mv wv Gm Cm Gw w' :=
  ⟨hh.ro.new hn, hh.nw.next hn, own_new hh.m hn, fun i hi => ⟨(hh.mr i hi).1.new hn, (hh.mr i hi).2⟩, own_new hh.wn hn, fun i hi => row_new (hh.wr i hi) hn, hh.wlo⟩
theorem own_apart {b b' : Nat} {e e' : TypeId} {s s' n n' : Nat} {v v' : Value} {xs xs' : List Value} (h : w.ownsRow b e s v n xs) (h' : w.ownsRow b' e' s' v' n' xs') (hne : e ≠ e') (hg : w.grownBy w' v'.ownBlock) : w'.ownsRow b e s v n xs := by
  refine h.kept hg ?_
  rcases h.2 with ⟨rfl, _⟩ | ⟨g, cap, cur, rfl, _, hg0, _⟩
  · exact .inl rfl
  · right
    rcases h'.2 with ⟨rfl, _⟩ | ⟨g', cap', cur', rfl, _, hg1, _⟩
    · simp [Value.ownBlock]
    · intro he
      have hgg : g = g' := by simpa [Value.ownBlock] using he
      subst hgg
      rw [hg0] at hg1
      injection hg1 with hg1
      injection hg1 with _ hg1 _
      exact hne hg1
theorem FA.pushM (hh : FA w0 w1 o N n sz G V Ad Gr Cp F h U H b mv wv Gm Cm Gw w) (hnN : n ≤ N) {obj : Obj} {g c : Nat} {v2 : Value} (hr : RowK 3 .i64 w g h (fun q => fcP (U b) (H q))) (hc : h ≤ c ∧ c ≤ maxLen)
    (hown : w''.ownsRow w1.heap.size 29 1 v2 (b + 1) (rowsD Gm Cm h b ++ [.slice (some ⟨g, 0, none⟩) h c])) (hg : (w.alloc obj).grownBy w'' mv.ownBlock) :
    New w1 w'' ∧ RO w0 o N N n sz w1.heap.size G V Ad Gr Cp F w'' ∧ w''.ownsRow w1.heap.size 29 1 v2 (b + 1) (rowsD (fun i => if i = b then g else Gm i) (fun i => if i = b then c else Cm i) h (b + 1)) ∧
    (∀ i, i < b + 1 → RowK 3 .i64 w'' (if i = b then g else Gm i) h (fun q => fcP (U i) (H q)) ∧ h ≤ (if i = b then c else Cm i) ∧ (if i = b then c else Cm i) ≤ maxLen) ∧
    w''.ownsRow w1.heap.size 32 1 wv b (rowsD Gw (fun _ => sz) sz b) ∧ (∀ i, i < b → w''.rowIs (Gw i) 5 sz (byV (wantF n F U i))) := by
  have h2 := hh.new ((New.refl w).alloc obj)
  have hr2 := hr.new ((New.refl w).alloc obj)
  have hlo : ∀ r, mv.ownBlock = some r → w1.heap.size ≤ r := fun r e => (h2.m.lt _ e).1
  refine ⟨h2.nw.grown hg hlo, h2.ro.far hg hlo, ?_, fun i hi => ?_, own_apart h2.wn h2.m (by decide) hg, fun i hi => row_grown (h2.wr i hi) hg (row_ne_own h2.m (h2.wr i hi) (by decide))⟩
  · rw [rowsD_succ]; exact hown
  · by_cases e : i = b
    · subst e
      simp only [if_true]
      exact ⟨hr2.grown hg (hr2.ne_own h2.m (by decide)), hc⟩
    · simp only [if_neg e]
      exact ⟨(h2.mr i (by omega)).1.grown hg ((h2.mr i (by omega)).1.ne_own h2.m (by decide)), (h2.mr i (by omega)).2⟩
end
section
variable {w0 w1 w w' w'' : World} {o N n sz : Nat} {G : Nat → Bool} {V : Nat → Value} {Ad : Nat → Option Addr} {Gr Cp : Nat → Nat} {F : Nat → Nat → Nat} {h : Nat} {U H : Nat → Nat} {b : Nat} {mv wv : Value} {Gm Cm Gw : Nat → Nat}
theorem FA.pushW (p1 : New w1 w) (p2 : RO w0 o N N n sz w1.heap.size G V Ad Gr Cp F w) (p3 : w.ownsRow w1.heap.size 29 1 mv (b + 1) (rowsD Gm Cm h (b + 1)))
    (p4 : ∀ i, i < b + 1 → RowK 3 .i64 w (Gm i) h (fun q => fcP (U i) (H q)) ∧ h ≤ Cm i ∧ Cm i ≤ maxLen) (p5 : w.ownsRow w1.heap.size 32 1 wv b (rowsD Gw (fun _ => sz) sz b))
    (p6 : ∀ i, i < b → w.rowIs (Gw i) 5 sz (byV (wantF n F U i)) ∧ w1.heap.size ≤ Gw i) (hnN : n ≤ N) {obj : Obj} {g : Nat} {v2 : Value} (hr : w.rowIs g 5 sz (byV (wantF n F U b))) (hlo : w1.heap.size ≤ g)
    (hown : w''.ownsRow w1.heap.size 32 1 v2 (b + 1) (rowsD Gw (fun _ => sz) sz b ++ [.slice (some ⟨g, 0, none⟩) sz sz])) (hg : (w.alloc obj).grownBy w'' wv.ownBlock) :
    FA w0 w1 o N n sz G V Ad Gr Cp F h U H (b + 1) mv v2 Gm Cm (fun i => if i = b then g else Gw i) w'' := by
  have ha := (New.refl w).alloc obj
  have q5 := own_new p5 ha
  have hlo5 : ∀ r, wv.ownBlock = some r → w1.heap.size ≤ r := fun r e => (q5.lt _ e).1
  refine ⟨(p2.new ha).far hg hlo5, (p1.next ha).grown hg hlo5, own_apart (own_new p3 ha) q5 (by decide) hg, fun i hi => ⟨((p4 i hi).1.new ha).grown hg (((p4 i hi).1.new ha).ne_own q5 (by decide)), (p4 i hi).2⟩, ?_, fun i hi => ?_, fun i hi => ?_⟩
  · rw [show (fun _ : Nat => sz) = (fun i => if i = b then sz else (fun _ => sz) i) by funext i; split <;> rfl, rowsD_succ]
    exact hown
  · by_cases e : i = b
    · subst e
      rw [if_pos rfl]
      exact row_grown (row_new hr ha) hg (row_ne_own q5 (row_new hr ha) (by decide))
    · rw [if_neg e]
      have hi2 := row_new (p6 i (by omega)).1 ha
      exact row_grown hi2 hg (row_ne_own q5 hi2 (by decide))
  · show w1.heap.size ≤ (if i = b then g else Gw i)
    by_cases e : i = b
    · rw [if_pos e]; exact hlo
    · rw [if_neg e]; exact (p6 i (by omega)).2
end
/-- the second loop's memory -/
structure FB (w0 w1 : World) (o N n sz : Nat) (G : Nat → Bool) (V : Nat → Value) (Ad : Nat → Option Addr) (Gr Cp : Nat → Nat) (F' : Nat → Nat → Nat) (h : Nat) (H : Nat → Nat) (B1 : Option Addr) (R1 : Nat → Option Addr) (C1 : Nat → Nat) (X : Nat → Nat → Nat) (gw0 cw0 gH : Nat) (Gw : Nat → Nat) (W : Nat → Nat → Nat) (w : World) : Prop where
  ro : RO w0 o N N n sz w1.heap.size G V Ad Gr Cp F' w
  re : RdM .i64 w B1 h R1 (fun _ => h) C1 (fun i k => (X i k : Nat))
  wn : w.ownsRow w1.heap.size 32 1 (.slice (some ⟨gw0, 0, none⟩) h cw0) h (rowsD Gw (fun _ => sz) sz h)
  wr : ∀ i, i < h → w.rowIs (Gw i) 5 sz (byV (W i)) ∧ w1.heap.size ≤ Gw i
  hs : RowK 3 .i64 w gH h H
  ot : ∀ g m f, w1.rowIs g 4 m f → w.rowIs g 4 m f
section
variable {w0 w1 w w' : World} {o N n sz : Nat} {G : Nat → Bool} {V : Nat → Value} {Ad : Nat → Option Addr} {Gr Cp : Nat → Nat} {F' F2 : Nat → Nat → Nat} {h : Nat} {H : Nat → Nat} {B1 : Option Addr} {R1 : Nat → Option Addr} {C1 : Nat → Nat} {X : Nat → Nat → Nat} {gw0 cw0 gH : Nat} {Gw : Nat → Nat} {W : Nat → Nat → Nat}
theorem FB.new (b : FB w0 w1 o N n sz G V Ad Gr Cp F' h H B1 R1 C1 X gw0 cw0 gH Gw W w) (hn : New w w') : FB w0 w1 o N n sz G V Ad Gr Cp F' h H B1 R1 C1 X gw0 cw0 gH Gw W w' :=
  ⟨b.ro.new hn, b.re.new hn, own_new b.wn hn, fun i hi => ⟨row_new (b.wr i hi).1 hn, (b.wr i hi).2⟩, b.hs.new hn, fun g m f hf => row_new (b.ot g m f hf) hn⟩
theorem FB.congr (b : FB w0 w1 o N n sz G V Ad Gr Cp F' h H B1 R1 C1 X gw0 cw0 gH Gw W w) (he : ∀ k t, t < sz → F' k t = F2 k t) (hnN : n ≤ N) (hb : ∀ k t, F2 k t < 256) : FB w0 w1 o N n sz G V Ad Gr Cp F2 h H B1 R1 C1 X gw0 cw0 gH Gw W w :=
  ⟨b.ro.congr (fun k t _ _ ht => he k t ht) hb, b.re, b.wn, b.wr, b.hs, b.ot⟩
theorem FB.mix (b : FB w0 w1 o N n sz G V Ad Gr Cp F' h H B1 R1 C1 X gw0 cw0 gH Gw W w) (hnN : n ≤ N) {k : Nat} (hk : k < n) (hG : G k = true) {f : Nat → Nat} (hg : w.grownBy w' (some (Gr k))) (hr : w'.rowIs (Gr k) 5 sz (byV f)) (hb : ∀ t, f t < 256) :
    FB w0 w1 o N n sz G V Ad Gr Cp (fun i => if i = k then f else F' i) h H B1 R1 C1 X gw0 cw0 gH Gw W w' := by
  have hh := (b.ro.hole k (by omega) hk hG).2
  have hlo := (b.ro.lo k (by omega) ⟨.inl hk, .inr ⟨hk, hG⟩⟩).2
  refine ⟨b.ro.mixed (by omega) hk hG hg hr hb, rdM_far b.re hh hg, b.wn.kept hg (.inr (row_ne_own b.wn hh (by decide))), fun i hi => ⟨row_grown (b.wr i hi).1 hg (by have := (b.wr i hi).2; simp; omega), (b.wr i hi).2⟩, b.hs.grown hg (fun e => b.hs.ne_row hh (by decide) (by cases e; rfl)), fun g m f hf => ?_⟩
  have h2 := b.ot g m f hf
  refine row_grown h2 hg (fun e => ?_)
  cases e
  obtain ⟨c1, e1, _⟩ := h2
  obtain ⟨c2, e2, _⟩ := hh
  rw [e1] at e2
  injection e2 with e2
  injection e2 with _ e2 _
  exact absurd e2 (by decide)
end
theorem info3U : (Try.prog.info? 29).map (fun i => (i.zero, i.size, i.bytes)) = some (some (.slice none 0 0), 1, 24) := by kernel_rfl
theorem infoI3 : (Try.prog.info? 3).map (fun i => (i.zero, i.size, i.bytes)) = some (some (.int .i64 0), 1, 8) := by kernel_rfl
/-- what is known of the places -/
structure Pl (N n h : Nat) (G : Nat → Bool) (U H : Nat → Nat) : Prop where
  h1 : 1 ≤ h
  h3 : h ≤ 3
  n1 : 1 ≤ n
  n12 : n ≤ 12
  N15 : N ≤ 15
  nN : n ≤ N
  u3 : ∀ b, b < h → U b < 3
  ui : ∀ b, b + 1 < h → U b < U (b + 1)
  up : ∀ b, b < h → n + U b < N ∧ G (n + U b) = false
  hl : ∀ a, a < h → H a < n ∧ G (H a) = true
  hi : ∀ a, a + 1 < h → H a < H (a + 1)
set_option maxHeartbeats 4000000 in
theorem fill_any (gH cH gU cU o cO N n sz h : Nat) (G : Nat → Bool) (V : Nat → Value) (Ad : Nat → Option Addr) (Gr Cp : Nat → Nat) (F : Nat → Nat → Nat) (U H : Nat → Nat) (w0 w : World) (hro : RO w0 o N N n sz w.heap.size G V Ad Gr Cp F w)
    (hH : RowK 3 .i64 w gH h H) (hU : RowK 3 .i64 w gU h U) (P : Pl N n h G U H) (hsz : sz ≤ 4096) (hcO : N ≤ cO) (hcO2 : cO ≤ maxLen) (hz : ∀ a, a < h → ∀ t, t < sz → F (H a) t = 0) :
    Calls Try.prog 49 #[.slice (some ⟨o, 0, none⟩) N cO, .int .i64 n, .slice (some ⟨gH, 0, none⟩) h cH, .slice (some ⟨gU, 0, none⟩) h cU] w fun e w' => e = .returned (.tuple #[]) ∧
      RO w0 o N N n sz w.heap.size G V Ad Gr Cp (fillF (invN (facM U H) h) (wantF n F U) h H F h) w' ∧ ∀ g m f, w.rowIs g 4 m f → w'.rowIs g 4 m f := by
  obtain ⟨i0, hi0, hz0, hz1, hz2⟩ := info_parts infoI3
  obtain ⟨i1, hj0, hy0, hy1, hy2⟩ := info_parts info3U
  obtain ⟨i2, hk0, hx0, hx1, hx2⟩ := info_parts info32
  obtain ⟨h1, h3, n1, n12, N15, nN, u3, ui, up, hl, hi⟩ := id P
  unfold maxLen at hcO2
  have hb0 : ((h : Int) == 0) = false := by simp; omega
  have hnc : (n : Int) ≤ (cO : Int) := by omega
  have n0 : (0 : Int) ≤ (n : Int) := by omega
  have PH := Lib.hid P
  have hroH := Lib.hid hro
  have hHH := Lib.hid hH
  have hUH := Lib.hid hU
  have u3H := Lib.hid u3
  have upH := Lib.hid up
  have hlH := Lib.hid hl
  have hzH := Lib.hid hz
  clear P hro hH hU u3 ui up hl hi hz
  go_enter Try.func49, Try.ntmps49
  go_wp2
  go_loopw [26, 8, 10] (fun x mv wv wr => ∃ (b : Nat) (Gm Cm Gw : Nat → Nat), x = .int .i64 b ∧ b ≤ h ∧ Hid (FA w0 w o N n sz G V Ad Gr Cp F h U H b mv wv Gm Cm Gw wr)) (fun x _ _ _ => h - (intOf x).toNat)
  case atStart => exact ⟨0, fun _ => 0, fun _ => 0, fun _ => 0, rfl, by omega, ⟨hroH.out, New.refl w, World.ownsRow_nil _ _ _ _, fun i hi => absurd hi (by omega), World.ownsRow_nil _ _ _ _, fun i hi => absurd hi (by omega), fun i hi => absurd hi (by omega)⟩⟩
  case round =>
    obtain ⟨b, Gm, Cm, Gw, rfl, hbh, hfa⟩ := hrel
    obtain ⟨w1, rfl⟩ : ∃ w1, w1 = wr := ⟨wr, rfl⟩
    by_cases hlt : b < h
    · have cu := (hUH.out.new hfa.out.nw).cell hlt
      have a0 : (0 : Int) ≤ (b : Int) := by omega
      have a1 : (b : Int) < (h : Int) := by omega
      have hub := u3H.out b hlt
      have hup := upH.out b hlt
      obtain ⟨j, hj⟩ : ∃ j, Hid (j = U b) := ⟨_, rfl⟩
      rw [← hj.out] at cu hub hup
      have hupH := Lib.hid hup
      clear hup
      obtain ⟨mv0, rfl⟩ : ∃ x, x = u8 := ⟨_, rfl⟩
      obtain ⟨wv0, rfl⟩ : ∃ x, x = u10 := ⟨_, rfl⟩
      go_wp2_with fail
      go_loopw [32, 13] (fun x rv wr => ∃ a : Nat, x = .int .i64 a ∧ a ≤ h ∧ wr.ownsRow w1.heap.size 3 1 rv a (numL .i64 (fun q => fcP j (H q)) a) ∧ Hid (New w1 wr)) (fun x _ _ => h - (intOf x).toNat)
      case atStart => exact ⟨0, rfl, by omega, World.ownsRow_nil _ _ _ _, New.refl w1⟩
      case round =>
        obtain ⟨a, rfl, hah, hown, hnw⟩ := hrel
        by_cases hal : a < h
        · have ch := ((hHH.out.new hfa.out.nw).new hnw.out).cell hal
          have b0 : (0 : Int) ≤ (a : Int) := by omega
          have b1 : (a : Int) < (h : Int) := by omega
          have hHa := (hlH.out a hal).1
          have hfac := Lib.hid (fun w => factor_any j (H a) (by omega) (by omega) w)
          obtain ⟨q, hq⟩ : ∃ q, Hid (q = H a) := ⟨_, rfl⟩
          rw [← hq.out] at ch hHa hfac
          go_wp2_with fail
          refine (hfac.out _).mono ?_
          rintro e w2 ⟨rfl, hn2⟩
          have hown2 := own_new hown hn2
          have hnw2 := Lib.hid (hnw.out.next hn2)
          have hsz2 := hnw2.out.size
          clear hown hn2 ch
          go_wp2_with (at_builtin; refine wpList_append_own _ rfl _ _ 29 rfl w1.heap.size 3 i0 _ 1 8 Try.underlying29 hi0 hz0 hz1 hz2 rfl (by decide) _ a _ rfl (hown2.alloc _) ⟨w2.heap.size, 0, none⟩ 1 1 [.int .i64 (fcN j q : Nat)] rfl rfl (World.news_of_block (cs := #[.int .i64 _]) (t := 3) (fr := (0, 0)) (heap_alloc_new w2 _)) (by simp [Value.oneCell']) (by unfold maxLen; omega) (by omega) (by simp; omega) ?_; intro v3 w3 hown3 hgrow hnil)
          have hN3 : Hid (New w1 w3) := hnw2.out.append' hgrow fun g hg => (hown2.lt _ hg).1
          have hown4 : Hid (w3.ownsRow w1.heap.size 3 1 v3 (a + 1) (numL .i64 (fun q => fcP j (H q)) (a + 1))) := by
            unfold numL at hown3 ⊢
            rw [List.range_succ, List.map_append]
            have : (List.map (fun q => Value.int .i64 ((fcP j (H q) : Nat) : Int)) [a]) = [.int .i64 (fcN j q : Nat)] := by rw [hq.out]; rfl
            rw [this]
            exact hown3
          clear hown2 hown3 hgrow hnil
          go_wp2
          go_roundw
          case rel => exact ⟨a + 1, by go_num, by omega, hown4.out, hN3.out⟩
          case measure => simp [intOf]; omega
        · have hahh : a = h := by omega
          subst hahh
          obtain ⟨g3, c3, rfl, hg3a, hg3b⟩ := hown.form (by omega)
          obtain ⟨_, _, he3, hle3, hlm3, _⟩ := own_open hown
          cases he3
          have hrk : Hid (RowK 3 .i64 wr g3 a (fun q => fcP (U b) (H q))) := by rw [← hj.out]; exact RowK.of_own hown
          have hfa2 := Lib.hid (hfa.out.new hnw.out)
          have hmo := hfa2.out.m
          have hwsz := hfa2.out.nw.size
          have hblk : b < 16 := by omega
          clear hown
          go_wp2_with (first
            | (at_builtin; refine wpList_append_own _ rfl _ _ 53 rfl w.heap.size 29 i1 _ 1 24 Try.underlying53 hj0 hy0 hy1 hy2 rfl (by decide) _ b _ rfl (hmo.alloc _) ⟨wr.heap.size, 0, none⟩ 1 1 [.slice (some ⟨g3, 0, none⟩) a c3] rfl rfl (World.news_of_block (cs := #[.slice _ _ _]) (t := 29) (fr := (0, 0)) (heap_alloc_new wr _)) (by simp [Value.oneCell']) (by unfold maxLen; omega) (by omega) (by simp; omega) ?_; intro v4 w4 hown4 hgrow4 hnil4)
            | fail)
          obtain ⟨q1, q2, q3, q4, q5, q6⟩ := hfa2.out.pushM nN hrk.out ⟨hle3, hlm3⟩ hown4 hgrow4
          have hwlo := Lib.hid hfa2.out.wlo
          have q1H := Lib.hid q1
          have q2H := Lib.hid q2
          have q3H := Lib.hid q3
          have q4H := Lib.hid q4
          have q5H := Lib.hid q5
          have q6H := Lib.hid q6
          clear q1 q2 q3 q4 q5 q6 hown4 hgrow4 hnil4 hmo hfa2 hrk
          refine (encode_any (some ⟨o, 0, none⟩) n cO sz j _ _ _ _ w4 (q2H.out.rdM nN (Nat.le_refl _) N15 hsz) (fun i hi t ht => by have := q2H.out.by_ i t; omega) (fun _ _ => rfl) n1 n12 hsz (by omega)).mono ?_
          rintro e w5 ⟨gE, rfl, hrE, hn5, hgE⟩
          have hup := upH.out b hlt
          rw [← hj.out] at hup
          have hc5 : w5.cell? ⟨o, n + j, none⟩ = some (.slice (Ad (n + j)) sz (Cp (n + j))) := by
            rw [(row_new q2H.out.out hn5).cell hup.1, (q2H.out.val _ hup.1 (.inr hup.2)).1]
          have hnj : (n : Int) + (j : Int) < (N : Int) := by omega
          have hnj0 : (0 : Int) ≤ (n : Int) + (j : Int) := by omega
          have hrE0 := Lib.hid hrE
          have hn50 := Lib.hid hn5
          have hne : 0 < sz → ∀ b' off', Ad (n + j) = some ⟨b', off', none⟩ → b' ≠ gE := fun h0 b' off' hA => by
            have h0' := (q2H.out.row _ hup.1 (.inr hup.2) h0).1
            rw [h0'] at hA
            cases hA
            have h1 := (q2H.out.lo _ hup.1 ⟨.inr hup.2, .inl h0⟩).2
            have h2 := q1H.out.size
            omega
          have hmix := Lib.hid (mix_any gE sz sz sz (Cp (n + j)) 1 (Ad (n + j)) _ (fun t => (F (n + j) t : Nat)) w5 hrE (fun t => enN_lt _ _ _ _) ((q2H.out.new hn5).rdI hsz hup.1 (.inr hup.2)) (fun i hi => by have := q2H.out.by_ (n + j) i; omega) hne (Nat.le_refl _) (by unfold maxLen; omega) (by omega))
          clear hrE hn5 hup hne
          go_wp2_with fail
          refine hmix.out.mono ?_
          rintro e w6 ⟨rfl, hr6, hg6⟩
          have hn46 := hn50.out.grown1 hg6 hgE
          have hwr6 : w6.rowIs gE 5 sz (byV (wantF n F U b)) := hr6.congr fun t ht => by
            unfold byV mxF wantF
            simp only [Int.toNat_natCast]
            rw [if_pos ht, ← hj.out, gf.one_mul _ (q2H.out.by_ (n + j) t)]
          have hfin := Lib.hid (And.intro hn46 hwr6)
          have how6 := own_new q5H.out hn46
          have hws6 : w.heap.size ≤ w6.heap.size := Nat.le_trans q1H.out.size hn46.size
          clear hmix hn46 hwr6 hr6 hg6 hc5
          go_wp2_with (at_builtin; refine wpList_append_own _ rfl _ _ 22 rfl w.heap.size 32 i2 _ 1 24 Try.underlying22 hk0 hx0 hx1 hx2 rfl (by decide) _ b _ rfl (how6.alloc _) ⟨w6.heap.size, 0, none⟩ 1 1 [.slice (some ⟨gE, 0, none⟩) sz sz] rfl rfl (World.news_of_block (cs := #[.slice _ _ _]) (t := 32) (fr := (0, 0)) (heap_alloc_new w6 _)) (by simp [Value.oneCell']) (by unfold maxLen; omega) (by omega) (by simp; omega) ?_; intro v7 w7 hown7 hgrow7 hnil7)
          have hFA := Lib.hid (FA.pushW (q1H.out.next hfin.out.1) (q2H.out.new hfin.out.1) (own_new q3H.out hfin.out.1) (fun i hi => ⟨(q4H.out i hi).1.new hfin.out.1, (q4H.out i hi).2⟩) how6 (fun i hi => ⟨row_new (q6H.out i hi) hfin.out.1, hwlo.out i hi⟩) nN hfin.out.2 (by have := q1H.out.size; omega) hown7 hgrow7)
          clear how6 hown7 hgrow7 hnil7
          go_wp2
          go_roundw
          case rel => exact ⟨b + 1, _, _, _, by go_num, by omega, hFA.out⟩
          case measure => simp [intOf]; omega
    · have hbhh : b = h := by omega
      subst hbhh
      have hpl := PH.out
      obtain ⟨gm0, cm0, rfl, hgm0, _⟩ := hfa.out.m.form (by omega)
      obtain ⟨gw0, cw0, rfl, hgw0, _⟩ := hfa.out.wn.form (by omega)
      have hMm : Hid (RdM .i64 w1 (some ⟨gm0, 0, none⟩) b (fun i => some ⟨Gm i, 0, none⟩) (fun _ => b) Cm (fun i q => (fcP (U i) (H q) : Nat))) := by
        obtain ⟨_, _, he, hle, hlm, h3', h4'⟩ := own_open hfa.out.m
        cases he
        refine ⟨by omega, fun h0 => ⟨gm0, 0, rfl, ?_, fun i hi => ?_⟩, fun i hi => ⟨(hfa.out.mr i hi).1.rdI (by unfold maxLen; omega), (hfa.out.mr i hi).2⟩⟩
        · obtain ⟨g, hg, _, hg2⟩ := h3' h0; cases hg; exact hg2
        · have := h4' gm0 rfl i (.slice (some ⟨Gm i, 0, none⟩) b (Cm i)) (by simp [rowsD, hi])
          simpa using this
      have hcode : Hid (mat.ivCode b (fun _ => b) (fun i q => ((fcP (U i) (H q) : Nat) : Int)) = 0) := by
        have hmay : mat.mayM b (fun _ => b) (fun i q => ((fcP (U i) (H q) : Nat) : Int)) = true := mat.mayM_true h1 (by omega) fun i hi => by
          unfold mat.rowP
          refine ⟨rfl, h1, (show b ≤ 8 by omega), mat.allE_true fun q hq => ?_⟩
          have := fcP_lt (U i) (H q)
          show 0 ≤ ((fcP (U i) (H q) : Nat) : Int) ∧ ((fcP (U i) (H q) : Nat) : Int) < 256
          omega
        have hrk := fac_rank (U := U) (H := H) h1 h3 u3H.out hpl.ui (fun a ha => by have := (hlH.out a ha).1; omega) hpl.hi
        unfold mat.ivCode
        rw [if_pos hmay, if_pos rfl, if_pos (show (mat.stR (fun i k => mat.elN (fun i q => ((fcP (U i) (H q) : Nat) : Int)) i k) b b).2 = b from hrk)]
        exact rfl
      have hln : Hid (mat.ivLen b (fun _ => b) (fun i q => ((fcP (U i) (H q) : Nat) : Int)) = b) := by
        unfold mat.ivLen
        rw [if_pos hcode.out]
        rfl
      have hinv := Lib.hid (mat.Invert_any (some ⟨gm0, 0, none⟩) b cm0 _ _ _ _ w1 hMm.out)
      rw [hcode.out, hln.out] at hinv
      have hX : Hid (invN (fun i k => mat.elN (fun i q => ((fcP (U i) (H q) : Nat) : Int)) i k) b = invN (facM U H) b) := rfl
      rw [hX.out] at hinv
      go_wp2_with fail
      refine hinv.out.mono ?_
      rintro e w2 ⟨_, rfl, ⟨B1, d1, R1, C1, rfl, hR1⟩, hn2⟩
      obtain ⟨X, hXe⟩ : ∃ X, Hid (X = invN (facM U H) b) := ⟨_, rfl⟩
      obtain ⟨W, hWe⟩ : ∃ W, Hid (W = wantF n F U) := ⟨_, rfl⟩
      rw [← hXe.out] at hR1
      have hXl : Hid (∀ i k, i < b → k < b → X i k < 256) := by
        rw [hXe.out]; exact invN_lt fun i k _ _ => fcP_lt _ _
      have hFl : Hid (∀ k t, F k t < 256) := hroH.out.by_
      have hHinj : Hid (∀ q a, q < a → a < b → H q < H a) := by
        have hi' := hpl.hi
        intro q a hqa hab
        clear hn2 hR1
        induction a with
        | zero => omega
        | succ a ih =>
          by_cases e : q = a
          · subst e; exact hi' q hab
          · exact Nat.lt_trans (ih (by omega) (by omega)) (hi' a hab)
      have hFB0 : Hid (FB w0 w o N n sz G V Ad Gr Cp (fillF X W b H F 0) b H B1 R1 C1 X gw0 cw0 gH Gw W w2) :=
        ⟨hfa.out.ro.new hn2, hR1, own_new hfa.out.wn hn2, fun i hi => ⟨by rw [hWe.out]; exact row_new (hfa.out.wr i hi) hn2, hfa.out.wlo i hi⟩, (hHH.out.new hfa.out.nw).new hn2, fun g m f hf => row_new (row_new hf hfa.out.nw) hn2⟩
      clear hR1 hn2 hinv hMm hcode hln hX hpl
      go_wp2_with fail
      go_loopw [72] (fun x wr => ∃ a : Nat, x = .int .i64 a ∧ a ≤ b ∧ Hid (FB w0 w o N n sz G V Ad Gr Cp (fillF X W b H F a) b H B1 R1 C1 X gw0 cw0 gH Gw W wr)) (fun x _ => b - (intOf x).toNat)
      case atStart => exact ⟨0, rfl, by omega, hFB0.out⟩
      case round =>
        obtain ⟨a, rfl, hab, hfb⟩ := hrel
        obtain ⟨w3, rfl⟩ : ∃ w3, w3 = wr := ⟨wr, rfl⟩
        by_cases hal : a < b
        · have ch := hfb.out.hs.cell hal
          have a0 : (0 : Int) ≤ (a : Int) := by omega
          have a1 : (a : Int) < (b : Int) := by omega
          have hHa := hlH.out a hal
          obtain ⟨q, hq⟩ : ∃ q, Hid (q = H a) := ⟨_, rfl⟩
          rw [← hq.out] at ch hHa
          have hHaH := Lib.hid hHa
          have hqN : (q : Int) < (N : Int) := by have := hHa.1; omega
          have q0 : (0 : Int) ≤ (q : Int) := by omega
          clear hHa
          have hfb1 : Hid (FB w0 w o N n sz G V Ad Gr Cp (fun k => if k = q then (fun t => xs 0 fun c => mul (X a c) (W c t)) else fillF X W b H F a k) b H B1 R1 C1 X gw0 cw0 gH Gw W w3) :=
            hfb.out.congr (fun k t ht => by
              by_cases e : k = q
              · rw [if_pos e, e, hq.out, fillF_other fun q' hq' => by have := hHinj.out q' a hq' hal; omega]
                exact hzH.out a hal t ht
              · rw [if_neg e]) nN (fun k t => by
              show (if k = q then (fun t => xs 0 fun c => mul (X a c) (W c t)) else fillF X W b H F a k) t < 256
              by_cases e : k = q
              · rw [if_pos e]; exact (by omega : (0 : Nat) < 256)
              · rw [if_neg e]; exact fillF_lt hXl.out hFl.out hab k t)
          clear hfb
          go_wp2_with fail
          go_loopw [79] (fun x wr => ∃ c : Nat, x = .int .i64 c ∧ c ≤ b ∧ Hid (FB w0 w o N n sz G V Ad Gr Cp (fun k => if k = q then (fun t => xs c fun c' => mul (X a c') (W c' t)) else fillF X W b H F a k) b H B1 R1 C1 X gw0 cw0 gH Gw W wr)) (fun x _ => b - (intOf x).toNat)
          case atStart => exact ⟨0, rfl, by omega, hfb1.out⟩
          case round =>
            clear hfb1
            obtain ⟨c, rfl, hcb, hf⟩ := hrel
            obtain ⟨w4, rfl⟩ : ∃ w4, w4 = wr := ⟨wr, rfl⟩
            by_cases hcl : c < b
            · have b0 : (0 : Int) ≤ (c : Int) := by omega
              have b1 : (c : Int) < (b : Int) := by omega
              have cw : w4.cell? ⟨gw0, c, none⟩ = some (.slice (some ⟨Gw c, 0, none⟩) sz sz) := by
                rw [hf.out.wn.cellAt c (by omega)]; simp [rowsD, hcl]
              have hqn := hHaH.out.1
              have co : w4.cell? ⟨o, q, none⟩ = some (.slice (some ⟨Gr q, 0, none⟩) sz (Cp q)) := by
                rw [hf.out.ro.out.cell (by omega), (hf.out.ro.val q (by omega) (.inl hqn)).1, (hf.out.ro.hole q (by omega) hqn hHaH.out.2).1]
              obtain ⟨bB, oB, rfl, hbB, hcB⟩ := hf.out.re.2.1 (by omega)
              have cB := hcB a hal
              obtain ⟨bR, oR, hRa, hbR, hcR⟩ := (hf.out.re.2.2 a hal).1.2 (show 0 < b by omega)
              have cR := hcR c hcl
              rw [hRa] at cB
              have hxl := hXl.out a c hal hcl
              have hmix := Lib.hid (fun w' (hn : New w4 w') => mix_any (Gr q) sz (Cp q) sz sz (X a c) (some ⟨Gw c, 0, none⟩) (fun t => xs c fun c' => mul (X a c') (W c' t)) (fun t => (W c t : Nat)) w' (by have := ((hf.out.new hn).ro.hole q (by omega) hqn hHaH.out.2).2; rw [if_pos rfl] at this; exact this) (fun t => xs_lt fun c' hc' => mul_lt _ _ (hXl.out a c' hal (Nat.lt_of_lt_of_le hc' hcb))) ((RowK.of_rowIs ((hf.out.new hn).wr c hcl).1 (Nat.le_refl _) fun j hj => rfl).rdI (by unfold maxLen; omega)) (fun t ht => by
                have := (enN_lt (U c) (fun i t => (F i t : Nat)) n t)
                have h2 : W c t < 256 := by rw [hWe.out]; exact xor_lt8 this (hFl.out _ _)
                show 0 ≤ ((W c t : Nat) : Int) ∧ ((W c t : Nat) : Int) ≤ 255
                omega) (fun _ b' off' hA => by cases hA; have := (hf.out.wr c hcl).2; have := (hf.out.ro.lo q (by omega) ⟨.inl hqn, .inr ⟨hqn, hHaH.out.2⟩⟩).2; omega) (Nat.le_refl _) (by unfold maxLen; omega) hxl)
              have k1 := NewW.keep co
              have k2 := NewW.keep cB
              have k3 := NewW.keep cR
              clear hcB hcR hqn co cB cR
              go_wp2_with fail
              (refine wp_region_new_tail 12 (by kernel_rfl) (by kernel_rfl) ?_; simp only [List.take_succ_cons, List.take_zero, List.drop_succ_cons, List.drop_zero]; (repeat (first | go_big_quiet_step (fail) | quiet_step (fail))); refine wpQuiet_nil ?_; rintro W5 ⟨⟨_, hn_W5⟩, rfl⟩)
              go_wp2_with fail
              refine (hmix.out _ hn_W5).mono ?_
              rintro e w6 ⟨rfl, hr6, hg6⟩
              have hfb6 := Lib.hid ((hf.out.new hn_W5).mix nN hHaH.out.1 hHaH.out.2 hg6 hr6 (fun t => by
                unfold mxF
                split
                · exact xor_lt8 (xs_lt fun c' hc' => mul_lt _ _ (hXl.out a c' hal (Nat.lt_of_lt_of_le hc' hcb))) (mul_lt _ _ hxl)
                · exact xs_lt fun c' hc' => mul_lt _ _ (hXl.out a c' hal (Nat.lt_of_lt_of_le hc' hcb))))
              have hfb7 : Hid (FB w0 w o N n sz G V Ad Gr Cp (fun k => if k = q then (fun t => xs (c + 1) fun c' => mul (X a c') (W c' t)) else fillF X W b H F a k) b H (some ⟨bB, oB, none⟩) R1 C1 X gw0 cw0 gH Gw W w6) := hfb6.out.congr (fun k t ht => by
                by_cases e : k = q
                · rw [if_pos e, if_pos e]
                  unfold mxF
                  rw [if_pos ht]
                  rfl
                · rw [if_neg e, if_neg e, if_neg e]) nN (fun k t => by
                show (if k = q then (fun t => xs (c + 1) fun c' => mul (X a c') (W c' t)) else fillF X W b H F a k) t < 256
                by_cases e : k = q
                · rw [if_pos e]; exact xs_lt fun c' hc' => mul_lt _ _ (hXl.out a c' hal (Nat.lt_of_lt_of_le hc' hcl))
                · rw [if_neg e]; exact fillF_lt hXl.out hFl.out hab k t)
              clear hfb6 hr6 hg6 hmix k1 k2 k3 hf cw
              go_wp2
              go_roundw
              case rel => exact ⟨c + 1, by go_num, by omega, hfb7.out⟩
              case measure => simp [intOf]; omega
            · have hcb2 : c = b := by omega
              subst hcb2
              have hf2 : Hid (FB w0 w o N n sz G V Ad Gr Cp (fillF X W c H F (a + 1)) c H B1 R1 C1 X gw0 cw0 gH Gw W w4) := by
                have := hf.out
                rw [hq.out] at this
                exact this
              clear hf
              go_wp2
              go_roundw
              case rel => exact ⟨a + 1, by go_num, by omega, hf2.out⟩
              case measure => simp [intOf]; omega
        · have hab2 : a = b := by omega
          subst hab2
          have hfin : Hid (RO w0 o N N n sz w.heap.size G V Ad Gr Cp (fillF (invN (facM U H) a) (wantF n F U) a H F a) w3 ∧ ∀ g m f, w.rowIs g 4 m f → w3.rowIs g 4 m f) := by
            rw [← hXe.out, ← hWe.out]
            exact ⟨hfb.out.ro, hfb.out.ot⟩
          clear hfb
          go_wp2
          exact Great.bodyPost_end0 rfl rfl ⟨rfl, hfin.out.1, hfin.out.2⟩
end Go.Proofs.Ytjmjnodaohbpfaa.par

/-
  slices.Clone over bytes, whatever their number; how the columns that are rebuilt are laid.
-/
namespace Go.Proofs.Ytjmjnodaohbpfaa.par
open Go.ChangeShapes Go.WideShapes Go.ChangeAt Go.RowKit Go.Proofs.Ytjmjnodaohbpfaa.kit Go.Proofs.Ytjmjnodaohbpfaa.gf Go.Proofs.Ytjmjnodaohbpfaa.fld Go.Deep
set_option linter.unusedVariables false
set_option maxRecDepth 100000

def CloneP (n : Nat) (f : Nat → Nat) (w : World) (e : Ending) (w' : World) : Prop :=
  ∃ A c, e = .returned (.slice A n c) ∧ (n ≤ c ∧ c ≤ maxLen) ∧ (0 < n → ∃ g, A = some ⟨g, 0, none⟩ ∧ RowK 5 .u8 w' g n f ∧ w.heap.size ≤ g) ∧ New w w'
theorem CloneB_any (A : Option Addr) (n c : Nat) (f : Nat → Nat) (w : World) (h : RdI .u8 w A n (fun j => (f j : Nat))) (hn2 : n ≤ 8192) (hc : n ≤ c ∧ c ≤ maxLen) :
    Calls Try.prog 34 #[.slice A n c] w (CloneP n f w) := by
  by_cases h0 : 0 < n
  · obtain ⟨b, off, rfl, hb, hcs⟩ := h.2 h0
    exact (stripe.Clone_any b off n c f w hcs h0 hn2 hb).mono fun e w' ⟨⟨g, cap, he, hcap, hr, hg⟩, hn⟩ => ⟨_, cap, he, hcap, fun _ => ⟨g, rfl, hr, hg⟩, hn⟩
  · obtain rfl : n = 0 := by omega
    have hnb := fun w => Lib.run_eql_slice_nil (P := Try.prog) w 32 5 A 0 c 0 0 Try.underlying32
    clear h h0
    cases A with
    | none =>
      simp only [Option.isNone] at hnb
      go_enter Try.func34, Try.ntmps34
      go_wp2
      go_ret
      exact ⟨none, 0, rfl, ⟨Nat.le_refl _, by omega⟩, fun h => absurd h (Nat.lt_irrefl 0), New.refl w⟩
    | some a =>
      simp only [Option.isNone] at hnb
      obtain ⟨i0, hi0, hz0, hz1, hz2⟩ := info_parts infoU8
      have hlit := World.ownsRow_lit (e := 5) (size := 1) w #[] 0 (Nat.le_refl _) (by unfold maxLen; omega) rfl
      go_enter Try.func34, Try.ntmps34
      go_wp2_with (at_builtin; refine wpList_append_own _ rfl _ _ 32 rfl w.heap.size 5 i0 _ 1 1 Try.underlying32 hi0 hz0 hz1 hz2 rfl (by decide) (Value.slice (some ⟨w.heap.size, 0, none⟩) 0 0) 0 [] rfl hlit a 0 c [] rfl rfl (fun j u hu => by simp at hu) (fun u hu => by cases hu) (by unfold maxLen; omega) (by omega) (by simp) ?_; intro v3 w3 hown3 hgrow hnil)
      have hgA : (w.alloc (.cells #[] 5)).grownBy w3 (some w.heap.size) := hgrow
      have hN : New w w3 := (New.refl w).append' hgA (fun g hg => by cases hg; exact Nat.le_refl _)
      obtain ⟨A', c', rfl, h1, h2, _⟩ := own_open hown3
      have hfin : Hid ((0 ≤ c' ∧ c' ≤ maxLen) ∧ New w w3) := ⟨⟨Nat.zero_le _, h2⟩, hN⟩
      clear hgrow hnil hown3
      go_wp2
      go_ret
      exact ⟨_, c', rfl, hfin.out.1, fun h => absurd h (Nat.lt_irrefl 0), hfin.out.2⟩
section
variable {w0 w w' : World} {o M N n sz hi : Nat} {G : Nat → Bool} {V : Nat → Value} {Ad : Nat → Option Addr} {Gr Cp : Nat → Nat} {F : Nat → Nat → Nat}
abbrev up {α : Type} (f : Nat → α) (i : Nat) (x : α) : Nat → α := fun j => if j = i then x else f j
theorem up_at {α : Type} (f : Nat → α) (i : Nat) (x : α) : up f i x i = x := if_pos rfl
theorem up_ne {α : Type} (f : Nat → α) {i j : Nat} (x : α) (h : j ≠ i) : up f i x j = f j := if_neg h
/-- a column that is not to be there -/
theorem RO.skip (h : RO w0 o M N n sz hi G V Ad Gr Cp F w) (hp : ¬ Pr n G N) : RO w0 o M (N + 1) n sz hi G V Ad Gr Cp F w := by
  have hk : ∀ k, k < N + 1 → Pr n G k → k < N := fun k a b => by
    by_cases e : k = N
    · subst e; exact absurd b hp
    · omega
  exact ⟨h.nw, h.out, h.old, fun k a b => h.val k (hk k a b) b, fun k a b => h.row k (hk k a b) b, fun k a b => h.hole k (hk k a (.inl b)) b, fun k l a b c d => h.inj k l (hk k a c.1) (hk l b d.1) c d, fun k a b => h.lo k (hk k a b.1) b, h.by_⟩
/-- a column is laid -/
theorem RO.lay (h : RO w0 o M N n sz hi G V Ad Gr Cp F w) {A : Option Addr} {c g : Nat} (hp : Pr n G N) (hc : sz ≤ c ∧ c ≤ maxLen) (hr : 0 < sz → A = some ⟨g, 0, none⟩ ∧ RowK 5 .u8 w g sz (F N))
    (hh : N < n → G N = true → A = some ⟨g, 0, none⟩ ∧ w.rowIs g 5 sz (byV (F N))) (hg : Bk sz n G N → hi ≤ g ∧ g < w.heap.size) (hw : w0.heap.size ≤ hi) (hhi : hi ≤ w.heap.size) :
    RO w0 o M (N + 1) n sz w.heap.size G (up V N (.slice A sz c)) (up Ad N A) (up Gr N g) (up Cp N c) F (w.setCell ⟨o, N, none⟩ (.slice A sz c)) := by
  have hgr := grown_set w o N (.slice A sz c)
  have hk : ∀ k, k < N + 1 → k ≠ N → k < N := fun k a b => by omega
  have hg1 : (w.setCell ⟨o, N, none⟩ (.slice A sz c)).heap.size = w.heap.size := by simp [World.setCell]
  refine ⟨h.nw.grown1 hgr h.old.1, h.out.set N _, ⟨h.old.1, by have := h.old.2; omega⟩, fun k a b => ?_, fun k a b c' => ?_, fun k a b c' => ?_, fun k l a b c' d e => ?_, fun k a b => ?_, h.by_⟩
  · by_cases e : k = N
    · subst e; rw [up_at, up_at, up_at]; exact ⟨rfl, hc⟩
    · rw [up_ne _ _ e, up_ne _ _ e, up_ne _ _ e]; exact h.val k (hk k a e) b
  · by_cases e : k = N
    · subst e; rw [up_at, up_at]
      obtain ⟨h1, h2⟩ := hr c'
      exact ⟨h1, h2.grown hgr (fun e => h2.ne_row h.out (by decide) (by cases e; rfl))⟩
    · rw [up_ne _ _ e, up_ne _ _ e]
      obtain ⟨h1, h2⟩ := h.row k (hk k a e) b c'
      exact ⟨h1, h2.grown hgr (fun e => h2.ne_row h.out (by decide) (by cases e; rfl))⟩
  · by_cases e : k = N
    · subst e; rw [up_at, up_at]
      obtain ⟨h1, h2⟩ := hh b c'
      exact ⟨h1, row_grown h2 hgr (fun e => row_typ h2 h.out (by decide) (by cases e; rfl))⟩
    · rw [up_ne _ _ e, up_ne _ _ e]
      obtain ⟨h1, h2⟩ := h.hole k (hk k a e) b c'
      exact ⟨h1, row_grown h2 hgr (fun e => row_typ h2 h.out (by decide) (by cases e; rfl))⟩
  · by_cases e1 : k = N
    · subst e1
      rw [up_at, up_ne _ _ (fun x => e x.symm)]
      have := (h.lo l (hk l b (fun x => e x.symm)) d).2
      have := (hg c').1
      omega
    · rw [up_ne _ _ e1]
      by_cases e2 : l = N
      · subst e2
        rw [up_at]
        have := (h.lo k (hk k a e1) c').2
        have := (hg d).1
        omega
      · rw [up_ne _ _ e2]
        exact h.inj k l (hk k a e1) (hk l b e2) c' d e
  · by_cases e : k = N
    · subst e; rw [up_at]
      have := hg b
      exact ⟨by omega, by omega⟩
    · rw [up_ne _ _ e]
      have := h.lo k (hk k a e) b
      exact ⟨this.1, by omega⟩
theorem set_size (w : World) (a : Addr) (v : Value) : (w.setCell a v).heap.size = w.heap.size := by simp [World.setCell]
theorem RO.layH (h : RO w0 o M N n sz hi G V Ad Gr Cp F w) {g : Nat} (hin : N < n) (hG : G N = true) (hrow : w.rowIs g 5 sz (fun _ => .int .u8 0)) (hz : ∀ j, j < sz → byV (F N) j = .int .u8 0) (hg : hi ≤ g) (hw : w0.heap.size ≤ hi) (hs : sz ≤ 4096)
    {b m : Nat} {v : Value} {xs : List Value} (hown : w.ownsRow b 3 1 v m xs) :
    RO w0 o M (N + 1) n sz (w.setCell ⟨o, N, none⟩ (.slice (some ⟨g, 0, none⟩) sz sz)).heap.size G (up V N (.slice (some ⟨g, 0, none⟩) sz sz)) (up Ad N (some ⟨g, 0, none⟩)) (up Gr N g) (up Cp N sz) F (w.setCell ⟨o, N, none⟩ (.slice (some ⟨g, 0, none⟩) sz sz)) ∧
    (w.setCell ⟨o, N, none⟩ (.slice (some ⟨g, 0, none⟩) sz sz)).ownsRow b 3 1 v m xs := by
  have hgl := hrow.lt
  have hrow2 : w.rowIs g 5 sz (byV (F N)) := hrow.congr fun j hj => (hz j hj).symm
  refine ⟨?_, hown.kept (grown_set _ _ _ _) (.inr (row_ne_own hown h.out (by decide)))⟩
  rw [set_size]
  exact h.lay (.inl hin) ⟨Nat.le_refl _, by unfold maxLen; omega⟩ (fun _ => ⟨rfl, RowK.of_rowIs hrow2 (Nat.le_refl _) fun j hj => rfl⟩) (fun _ _ => ⟨rfl, hrow2⟩) (fun _ => ⟨hg, hgl⟩) hw (by omega)
/-- a parity column that was lost is laid -/
theorem RO.add (h : RO w0 o M N n sz hi G V Ad Gr Cp F w) {j g : Nat} {f : Nat → Nat} (hj : j < N) (hnj : n ≤ j) (hr : w.rowIs g 5 sz (byV f)) (hf : ∀ t, f t < 256) (hg : hi ≤ g) (hw : w0.heap.size ≤ hi) (hs : sz ≤ 4096) (hG : G j = true) :
    RO w0 o M N n sz (w.setCell ⟨o, j, none⟩ (.slice (some ⟨g, 0, none⟩) sz sz)).heap.size (up G j false) (up V j (.slice (some ⟨g, 0, none⟩) sz sz)) (up Ad j (some ⟨g, 0, none⟩)) (up Gr j g) (up Cp j sz) (up F j f) (w.setCell ⟨o, j, none⟩ (.slice (some ⟨g, 0, none⟩) sz sz)) := by
  have hgr := grown_set w o j (.slice (some ⟨g, 0, none⟩) sz sz)
  have hgl := hr.lt
  have hP : ∀ k, k ≠ j → Pr n (up G j false) k → Pr n G k := fun k e a => by
    rcases a with a | a
    · exact .inl a
    · rw [up_ne _ _ e] at a; exact .inr a
  have hB : ∀ k, k ≠ j → Bk sz n (up G j false) k → Bk sz n G k := fun k e a => by
    refine ⟨hP k e a.1, ?_⟩
    rcases a.2 with b | b
    · exact .inl b
    · rw [up_ne _ _ e] at b; exact .inr b
  rw [set_size]
  refine ⟨h.nw.grown1 hgr h.old.1, h.out.set j _, ⟨h.old.1, by have := h.old.2; omega⟩, fun k a b => ?_, fun k a b c => ?_, fun k a b c => ?_, fun k l a b c d e => ?_, fun k a b => ?_, fun k t => ?_⟩
  · by_cases e : k = j
    · subst e; rw [up_at, up_at, up_at]; exact ⟨rfl, Nat.le_refl _, by unfold maxLen; omega⟩
    · rw [up_ne _ _ e, up_ne _ _ e, up_ne _ _ e]; exact h.val k a (hP k e b)
  · by_cases e : k = j
    · subst e; rw [up_at, up_at, up_at]
      have hk : RowK 5 .u8 w g sz f := RowK.of_rowIs hr (Nat.le_refl _) fun j hj => rfl
      exact ⟨rfl, hk.grown hgr (fun e => hk.ne_row h.out (by decide) (by cases e; rfl))⟩
    · rw [up_ne _ _ e, up_ne _ _ e, up_ne _ _ e]
      obtain ⟨h1, h2⟩ := h.row k a (hP k e b) c
      exact ⟨h1, h2.grown hgr (fun e => h2.ne_row h.out (by decide) (by cases e; rfl))⟩
  · have e : k ≠ j := by omega
    rw [up_ne _ _ e] at c
    rw [up_ne _ _ e, up_ne _ _ e, up_ne _ _ e]
    obtain ⟨h1, h2⟩ := h.hole k a b c
    exact ⟨h1, row_grown h2 hgr (fun e => row_typ h2 h.out (by decide) (by cases e; rfl))⟩
  · by_cases e1 : k = j
    · subst e1
      rw [up_at, up_ne _ _ (fun x => e x.symm)]
      have := (h.lo l b (hB l (fun x => e x.symm) d)).2
      omega
    · rw [up_ne _ _ e1]
      by_cases e2 : l = j
      · subst e2
        rw [up_at]
        have := (h.lo k a (hB k e1 c)).2
        omega
      · rw [up_ne _ _ e2]
        exact h.inj k l a b (hB k e1 c) (hB l e2 d) e
  · by_cases e : k = j
    · subst e; rw [up_at]; omega
    · rw [up_ne _ _ e]
      have := h.lo k a (hB k e b)
      exact ⟨this.1, by omega⟩
  · by_cases e : k = j
    · subst e; rw [up_at]; exact hf t
    · rw [up_ne _ _ e]; exact h.by_ k t
theorem RO.rdAll (h : RO w0 o M M n sz hi G V Ad Gr Cp F w) (hM : M ≤ 15) (hs : sz ≤ 4096) (hp : ∀ k, k < M → Pr n G k) : RdM .u8 w (some ⟨o, 0, none⟩) M Ad (fun _ => sz) Cp (fun k t => (F k t : Nat)) :=
  ⟨by unfold maxLen; omega, fun _ => ⟨o, 0, rfl, h.out.lt, fun k hk => by rw [Nat.zero_add, h.out.cell hk, (h.val k hk (hp k hk)).1]⟩,
    fun k hk => ⟨h.rdI hs hk (hp k hk), (h.val k hk (hp k hk)).2⟩⟩
theorem fill_none (n h : Nat) (N cO cH cU u : Nat) (O A B : Option Addr) (w : World) (hh : ((h : Int) == 0) = true) : Calls Try.prog 49 #[.slice O N cO, .int .i64 n, .slice A h cH, .slice B u cU] w fun e w' => e = .returned (.tuple #[]) ∧ w = w' := by
  go_enter Try.func49, Try.ntmps49
  go_wp2
  refine bodyPost_ret (results_none rfl _ _ _) rfl ?_
  exact ⟨rfl, rfl⟩
theorem RO.alive (h : RO w0 o M N n sz hi G V Ad Gr Cp F w) : RO w0 o M N n sz w.heap.size G V Ad Gr Cp F w :=
  ⟨h.nw, h.out, ⟨h.old.1, h.out.lt⟩, h.val, h.row, h.hole, h.inj, fun k a b => ⟨(h.lo k a b).1, by
    rcases b.2 with c | c
    · exact (h.row k a b.1 c).2.lt
    · exact (h.hole k a c.1 c.2).2.lt⟩, h.by_⟩
/-- another row of one's own grows -/
theorem RO.apart (h : RO w0 o M N n sz hi G V Ad Gr Cp F w) {b m s : Nat} {v : Value} {xs : List Value} (ho : w.ownsRow b 3 s v m xs) (hg : w.grownBy w' v.ownBlock) (hb : w0.heap.size ≤ b) : RO w0 o M N n sz hi G V Ad Gr Cp F w' :=
  ⟨h.nw.grown hg (fun g e => Nat.le_trans hb (ho.lt _ e).1), row_grown h.out hg (row_ne_own ho h.out (by decide)), h.old, h.val, fun k a b c => ⟨(h.row k a b c).1, (h.row k a b c).2.grown hg ((h.row k a b c).2.ne_own ho (by decide))⟩,
    fun k a b c => ⟨(h.hole k a b c).1, row_grown (h.hole k a b c).2 hg (row_ne_own ho (h.hole k a b c).2 (by decide))⟩, h.inj, h.lo, h.by_⟩
end
/-- the holes -/
def hfL (G : Nat → Bool) (n : Nat) : List Nat := (List.range n).filter G
/-- the parity columns that stand in -/
def pfL (G : Nat → Bool) (n p : Nat) : List Nat := (List.range p).filter fun j => !G (n + j)
theorem hfL_yes {G : Nat → Bool} {i : Nat} (h : G i = true) : hfL G (i + 1) = hfL G i ++ [i] := by
  unfold hfL; rw [List.range_succ, List.filter_append]; simp [h]
theorem hfL_no {G : Nat → Bool} {i : Nat} (h : G i = false) : hfL G (i + 1) = hfL G i := by
  unfold hfL; rw [List.range_succ, List.filter_append]; simp [h]
theorem pfL_yes {G : Nat → Bool} {n j : Nat} (h : G (n + j) = false) : pfL G n (j + 1) = pfL G n j ++ [j] := by
  unfold pfL; rw [List.range_succ, List.filter_append]; simp [h]
theorem pfL_no {G : Nat → Bool} {n j : Nat} (h : G (n + j) = true) : pfL G n (j + 1) = pfL G n j := by
  unfold pfL; rw [List.range_succ, List.filter_append]; simp [h]
theorem hfL_len (G : Nat → Bool) (n : Nat) : (hfL G n).length ≤ n := by
  unfold hfL
  have := List.length_filter_le G (List.range n)
  simpa using this
theorem pfL_len (G : Nat → Bool) (n p : Nat) : (pfL G n p).length ≤ p := by
  unfold pfL
  have := List.length_filter_le (fun j => !G (n + j)) (List.range p)
  simpa using this
theorem get_mem {l : List Nat} {a : Nat} (h : a < l.length) : l.getD a 0 ∈ l := by
  have : l.getD a 0 = l[a] := by simp [List.getD, h]
  rw [this]; exact List.getElem_mem h
theorem get_inc {l : List Nat} (hl : l.Pairwise (· < ·)) {a : Nat} (h : a + 1 < l.length) : l.getD a 0 < l.getD (a + 1) 0 := by
  have h1 : l.getD a 0 = l[a] := by simp [List.getD, (by omega : a < l.length)]
  have h2 : l.getD (a + 1) 0 = l[a + 1] := by simp [List.getD, h]
  rw [h1, h2]
  exact List.pairwise_iff_getElem.1 hl a (a + 1) (by omega) h (by omega)
theorem hfL_mem {G : Nat → Bool} {n k : Nat} : k ∈ hfL G n ↔ k < n ∧ G k = true := by simp [hfL]
theorem pfL_mem {G : Nat → Bool} {n p k : Nat} : k ∈ pfL G n p ↔ k < p ∧ G (n + k) = false := by simp [pfL]
theorem hfL_inc (G : Nat → Bool) (n : Nat) : (hfL G n).Pairwise (· < ·) := List.Pairwise.filter _ List.pairwise_lt_range
theorem pfL_inc (G : Nat → Bool) (n p : Nat) : (pfL G n p).Pairwise (· < ·) := List.Pairwise.filter _ List.pairwise_lt_range
theorem take_get {l : List Nat} {h a : Nat} (ha : a < h) : (l.take h).getD a 0 = l.getD a 0 := by
  simp only [List.getD, List.getElem?_take, if_pos ha]
/-- the places -/
theorem Pl_of {N n p : Nat} {G : Nat → Bool} (h1 : 1 ≤ (hfL G n).length) (hp : (hfL G n).length ≤ (pfL G n p).length) (p3 : p ≤ 3) (n1 : 1 ≤ n) (n12 : n ≤ 12) (hN : N = n + p) :
    Pl N n (hfL G n).length G (fun b => (pfL G n p).getD b 0) (fun a => (hfL G n).getD a 0) := by
  have hl := pfL_len G n p
  refine ⟨h1, by omega, n1, n12, by omega, by omega, fun b hb => ?_, fun b hb => get_inc (pfL_inc G n p) (by omega), fun b hb => ?_, fun a ha => hfL_mem.1 (get_mem ha), fun a ha => get_inc (hfL_inc G n) ha⟩
  · have := (pfL_mem.1 (get_mem (by omega : b < (pfL G n p).length))).1; omega
  · have := pfL_mem.1 (get_mem (by omega : b < (pfL G n p).length)); exact ⟨by omega, this.2⟩
theorem pfL_pre (G : Nat → Bool) (n : Nat) {q p : Nat} (h : q ≤ p) {b : Nat} (hb : b < (pfL G n q).length) : (pfL G n q).getD b 0 = (pfL G n p).getD b 0 := by
  have h1 : ∀ d, ∃ r, pfL G n (q + d) = pfL G n q ++ r := fun d => by
    induction d with
    | zero => exact ⟨[], by simp⟩
    | succ d ih =>
      obtain ⟨r, hr⟩ := ih
      rw [show q + (d + 1) = q + d + 1 by omega]
      cases hG : G (n + (q + d)) with
      | true => rw [pfL_no hG]; exact ⟨r, hr⟩
      | false => rw [pfL_yes hG, hr]; exact ⟨r ++ [q + d], by simp⟩
  obtain ⟨r, hr⟩ := h1 (p - q)
  rw [show q + (p - q) = p by omega] at hr
  rw [hr]
  simp [List.getD, List.getElem?_append_left hb]
end Go.Proofs.Ytjmjnodaohbpfaa.par

/-
  Contract of par.rebuilt.
-/
namespace Go.Proofs.Ytjmjnodaohbpfaa.par
open Go.ChangeShapes Go.WideShapes Go.ChangeAt Go.RowKit Go.Proofs.Ytjmjnodaohbpfaa.kit Go.Proofs.Ytjmjnodaohbpfaa.gf Go.Proofs.Ytjmjnodaohbpfaa.fld Go.Deep
set_option linter.unusedVariables false
set_option maxRecDepth 100000

def encI (x : Nat) : Value := .int .i64 (x : Nat)
theorem numL_list (l : List Nat) : numL .i64 (fun a => l.getD a 0) l.length = l.map encI := by
  apply List.ext_getElem
  · simp [numL]
  · intro i h1 h2
    have : i < l.length := by simpa using h2
    simp [numL, encI, List.getD, this]
/-- the columns that are there -/
def rb0 (G : Nat → Bool) (M : Nat → Nat → Int) (k t : Nat) : Nat := if G k = true then 0 else (M k t).toNat % 256
theorem rb0_lt (G : Nat → Bool) (M : Nat → Nat → Int) (k t : Nat) : rb0 G M k t < 256 := by
  unfold rb0
  split <;> omega
/-- the data columns -/
def rbD (G : Nat → Bool) (n p : Nat) (M : Nat → Nat → Int) : Nat → Nat → Nat :=
  fillF (invN (facM (fun b => (pfL G n p).getD b 0) (fun a => (hfL G n).getD a 0)) (hfL G n).length) (wantF n (rb0 G M) (fun b => (pfL G n p).getD b 0)) (hfL G n).length (fun a => (hfL G n).getD a 0) (rb0 G M) (hfL G n).length
/-- all columns -/
def rbF (G : Nat → Bool) (n p : Nat) (M : Nat → Nat → Int) (k t : Nat) : Nat := if n ≤ k ∧ G k = true then enN (k - n) (fun i t => (rbD G n p M i t : Nat)) n t else rbD G n p M k t
theorem rbD_lt (G : Nat → Bool) (n p : Nat) (M : Nat → Nat → Int) (k t : Nat) : rbD G n p M k t < 256 :=
  fillF_lt (invN_lt fun a b _ _ => fcP_lt _ _) (rb0_lt G M) (Nat.le_refl _) k t
theorem rbF_lt (G : Nat → Bool) (n p : Nat) (M : Nat → Nat → Int) (k t : Nat) : rbF G n p M k t < 256 := by
  unfold rbF
  split
  · exact enN_lt _ _ _ _
  · exact rbD_lt G n p M k t
theorem enN_congr (j : Nat) {M M' : Nat → Nat → Int} {t : Nat} : ∀ {n : Nat}, (∀ k, k < n → M k t = M' k t) → enN j M n t = enN j M' n t
  | 0, _ => rfl
  | n + 1, h => by
    unfold enN
    rw [enN_congr j fun k hk => h k (by omega), h n (by omega)]
/-- which are still gone, and what there is -/
def Gj (G : Nat → Bool) (n j : Nat) : Nat → Bool := fun k => if n ≤ k ∧ k < j then false else G k
def Fj (G : Nat → Bool) (n p : Nat) (M : Nat → Nat → Int) (j : Nat) : Nat → Nat → Nat := fun k t => if n ≤ k ∧ k < j ∧ G k = true then enN (k - n) (fun i t => (rbD G n p M i t : Nat)) n t else rbD G n p M k t
theorem Fj_lt (G : Nat → Bool) (n p : Nat) (M : Nat → Nat → Int) (j k t : Nat) : Fj G n p M j k t < 256 := by
  unfold Fj
  split
  · exact enN_lt _ _ _ _
  · exact rbD_lt G n p M k t
theorem Gj_start (G : Nat → Bool) (n : Nat) : Gj G n n = G := by
  funext k
  unfold Gj
  rw [if_neg (by omega)]
theorem Gj_next (G : Nat → Bool) {n j : Nat} (h : n ≤ j) : up (Gj G n j) j false = Gj G n (j + 1) := by
  funext k
  unfold up Gj
  by_cases e : k = j
  · rw [if_pos e, if_pos ⟨by omega, by omega⟩]
  · rw [if_neg e]
    by_cases e2 : n ≤ k ∧ k < j
    · rw [if_pos e2, if_pos ⟨e2.1, by omega⟩]
    · rw [if_neg e2, if_neg (by omega)]
theorem Gj_same (G : Nat → Bool) {n j : Nat} (h : G j = false) : Gj G n (j + 1) = Gj G n j := by
  funext k
  unfold Gj
  by_cases e : k = j
  · subst e
    rw [if_neg (show ¬ (n ≤ k ∧ k < k) by omega), h]
    split <;> rfl
  · by_cases e2 : n ≤ k ∧ k < j
    · rw [if_pos e2, if_pos ⟨e2.1, by omega⟩]
    · rw [if_neg e2, if_neg (by omega)]
def BuiltP (N sz : Nat) (X : Nat → Nat → Nat) (w : World) (e : Ending) (w' : World) : Prop :=
  ∃ o Ad Cp, e = .returned (.slice (some ⟨o, 0, none⟩) N N) ∧ RdM .u8 w' (some ⟨o, 0, none⟩) N Ad (fun _ => sz) Cp (fun k t => (X k t : Nat)) ∧ New w w'
set_option maxHeartbeats 4000000 in
theorem rebuilt_any (gg cg N n p sz c : Nat) (A : Option Addr) (G : Nat → Bool) (R : Nat → Option Addr) (L C : Nat → Nat) (M : Nat → Nat → Int) (w : World) (h : RdM .u8 w A N R L C M) (hb : ∀ i, i < N → ∀ k, k < L i → 0 ≤ M i k ∧ M i k ≤ 255)
    (hg : w.rowIs gg 4 N (boV G)) (hN : N = n + p) (n1 : 1 ≤ n) (n12 : n ≤ 12) (p1 : 1 ≤ p) (p3 : p ≤ 3) (hok : lOK G L N = true) (hsz : sz = lSize G L N) (hne : lf G N ≠ []) (hpf : (hfL G n).length ≤ (pfL G n p).length) :
    Calls Try.prog 29 #[.slice A N c, .int .i64 n, .slice (some ⟨gg, 0, none⟩) N cg] w (BuiltP N sz (rbF G n p M) w) := by
  have hN15 : N ≤ 15 := by omega
  have hnN : n < N := by omega
  have hNH := Lib.hid hN
  have hsl : sz ≤ 4096 := by
    obtain ⟨x, l, hl⟩ := List.exists_cons_of_ne_nil hne
    have hx : x ∈ lf G N := by rw [hl]; exact List.mem_cons_self
    have := lOK_out hok x (lf_mem.1 hx).1 (lf_mem.1 hx).2
    omega
  have hleft := Lib.hid (left_any gg N c cg A G R L C M w h hg hN15)
  have h0 := Lib.hid h
  have hg0 := Lib.hid hg
  have hb0 := Lib.hid hb
  have hok0 := Lib.hid (lOK_out hok)
  have hsz0 := Lib.hid hsz
  have hpf0 := Lib.hid hpf
  have hln : 0 < (lf G N).length := List.length_pos_iff.2 hne
  obtain ⟨cn, hcn⟩ : ∃ cn, Hid (cn = (lf G N).length) := ⟨_, rfl⟩
  rw [← hcn.out] at hln hleft
  obtain ⟨i0, hi0, hz0, hz1, hz2⟩ := info_parts infoI3
  have hmk := run_make_row' (P := Try.prog) 22 32 (.slice none 0 0) 24 Try.underlying22 info32 rfl .i64 .i64 N (by omega) (by omega)
  have hmk2 := run_make_row' (P := Try.prog) 32 5 (.int .u8 0) 1 Try.underlying32 infoU8 rfl .i64 .i64 sz (by omega) (by omega)
  clear h hg hb hok hsz hne hpf hN
  go_enter Try.func29, Try.ntmps29
  go_wp2_with fail
  refine hleft.out.mono ?_
  rintro e w1 ⟨⟨A', c', rfl, hM1⟩, hn1⟩
  obtain ⟨b1, off1, rfl, hb1, hcs1⟩ := hM1.2.1 hln
  have c10 := hcs1 0 hln
  rw [Nat.add_zero] at c10
  have hl0 : L ((lf G N).getD 0 0) = sz := hsz0.out.symm
  simp only [hl0] at c10
  have hn10 := Lib.hid hn1
  have hcnI : (0 : Int) < (cn : Int) := by omega
  clear hM1 hcs1 hl0 hn1 hleft
  go_wp2_with fail
  obtain ⟨w2, hw2⟩ : ∃ w2, w2 = w1.alloc (.cells (madeCells #[.slice none 0 0] N) 32) := ⟨_, rfl⟩
  have ho2 : Hid (w2.rowIs w1.heap.size 32 N (fun _ => .slice none 0 0)) := by rw [hw2]; exact World.rowIs_made w1 (.slice none 0 0) N 32
  have hn2 : Hid (New w w2) := by rw [hw2]; exact hn10.out.alloc _
  have hs2 : w2.heap.size = w1.heap.size + 1 := by rw [hw2]; simp
  rw [← hw2]
  obtain ⟨o, ho⟩ : ∃ o, o = w1.heap.size := ⟨_, rfl⟩
  rw [← ho] at ho2 hs2 ⊢
  have hoo : w.heap.size ≤ o := by rw [ho]; exact hn10.out.size
  have hs2H := Lib.hid hs2
  clear hw2 c10 hs2 ho
  have hro0 : Hid (RO w o N 0 n sz w2.heap.size G (fun _ => .slice none 0 0) (fun _ => none) (fun _ => 0) (fun _ => 0) (rb0 G M) w2) :=
    ⟨hn2.out, ho2.out, ⟨hoo, by have := hs2H.out; omega⟩, fun k a => absurd a (by omega), fun k a => absurd a (by omega), fun k a => absurd a (by omega), fun k l a => absurd a (by omega), fun k a => absurd a (by omega), rb0_lt G M⟩
  go_loopw [26, 9] (fun x hv wr => ∃ (i : Nat) (V : Nat → Value) (Ad : Nat → Option Addr) (Gr Cp : Nat → Nat), x = .int .i64 i ∧ i ≤ N ∧ Hid (RO w o N i n sz wr.heap.size G V Ad Gr Cp (rb0 G M) wr) ∧ Hid (∀ k, (i ≤ k ∨ ¬ Pr n G k) → V k = .slice none 0 0) ∧
    wr.ownsRow w.heap.size 3 1 hv (hfL G (min i n)).length ((hfL G (min i n)).map encI)) (fun x _ _ => N - (intOf x).toNat)
  case atStart => exact ⟨0, _, _, _, _, rfl, by omega, hro0.out, fun _ _ => rfl, by rw [Nat.zero_min]; exact World.ownsRow_nil _ _ _ _⟩
  case round =>
    clear hro0 ho2 hn2
    obtain ⟨i, V, Ad, Gr, Cp, rfl, hi, hro, hvn, hown⟩ := hrel
    obtain ⟨w3, rfl⟩ : ∃ w3, w3 = wr := ⟨wr, rfl⟩
    by_cases hlt : i < N
    · obtain ⟨bA, oA, rfl, hbA, hcA⟩ := h0.out.2.1 (by omega)
      have ca := (hro.out.nw.cell hbA).trans (hcA i hlt)
      have cg1 : w3.cell? ⟨gg, i, none⟩ = some (.bool (G i)) := (row_new hg0.out hro.out.nw).cell hlt
      have a0 : (0 : Int) ≤ (i : Int) := by omega
      have a1 : (i : Int) < (N : Int) := by omega
      have co := hro.out.out.cell hlt
      rw [hvn.out i (.inl (Nat.le_refl _))] at co
      have cf := hro.out.out.frozen i
      clear hcA
      cases hG : G i with
      | false =>
        rw [hG] at cg1
        have hLi : L i = sz := by rw [(hok0.out i hlt hG).1]; exact hsz0.out.symm
        have hRi := (h0.out.2.2 i hlt).1.new hro.out.nw
        have hCi := (h0.out.2.2 i hlt).2
        rw [hLi] at ca hRi hCi
        have hbi : Hid (∀ t, t < sz → 0 ≤ M i t ∧ M i t ≤ 255) := fun t ht => hb0.out i hlt t (by rw [hLi]; exact ht)
        have hRi2 : RdI .u8 w3 (R i) sz (fun t => ((M i t).toNat : Nat)) := ⟨hRi.1, fun h0 => by
          obtain ⟨b, off, hA, hb, hc⟩ := hRi.2 h0
          exact ⟨b, off, hA, hb, fun t ht => by rw [hc t ht]; have := hbi.out t ht; congr 2; show M i t = (((M i t).toNat : Nat) : Int); omega⟩⟩
        have hclone := Lib.hid (CloneB_any (R i) sz (C i) (fun t => (M i t).toNat) w3 hRi2 (by omega) hCi)
        have hGH := Lib.hid hG
        have hownH := Lib.hid hown
        clear hRi hRi2 hCi hLi hG hown
        go_wp2_with fail
        refine hclone.out.mono ?_
        rintro e w4 ⟨Ac, cc, rfl, hcc, hrow, hn4⟩
        have hro4 := hro.out.new hn4
        have co4 := hro4.out.cell hlt
        rw [hvn.out i (.inl (Nat.le_refl _))] at co4
        have cf4 := hro4.out.frozen i
        have hwsz := hro.out.nw.size
        obtain ⟨g, hgg⟩ : ∃ g, 0 < sz → Ac = some ⟨g, 0, none⟩ ∧ RowK 5 .u8 w4 g sz (fun t => (M i t).toNat) ∧ w3.heap.size ≤ g := by
          by_cases h0 : 0 < sz
          · obtain ⟨g, h1⟩ := hrow h0
            exact ⟨g, fun _ => h1⟩
          · exact ⟨0, fun h => absurd h h0⟩
        have hl1 := Lib.hid (hro4.lay (A := Ac) (c := cc) (g := g) (.inr hGH.out) hcc (fun h0 => ⟨(hgg h0).1, (hgg h0).2.1.congr fun t ht => by
            have := hbi.out t ht
            unfold rb0
            rw [if_neg (by rw [hGH.out]; simp)]
            show (M i t).toNat = (M i t).toNat % 256
            omega⟩) (fun _ h => by rw [hGH.out] at h; cases h) (fun hB => by
            have h0 : 0 < sz := by
              rcases hB.2 with h | h
              · exact h
              · rw [hGH.out] at h; exact absurd h.2 (by simp)
            exact ⟨(hgg h0).2.2, (hgg h0).2.1.lt⟩) hwsz hn4.size)
        rw [← set_size w4 ⟨o, i, none⟩ (.slice Ac sz cc)] at hl1
        have hv' : Hid (∀ k, (i + 1 ≤ k ∨ ¬ Pr n G k) → up V i (.slice Ac sz cc) k = .slice none 0 0) := fun k hk => by
          have hne : k ≠ i := by
            intro e
            subst e
            rcases hk with hk | hk
            · omega
            · exact hk (.inr hGH.out)
          rw [up_ne _ _ hne]
          exact hvn.out k (hk.elim (fun h => .inl (by omega)) .inr)
        have hlo5 : Hid ((w4.setCell ⟨o, i, none⟩ (.slice Ac sz cc)).ownsRow w.heap.size 3 1 u9 (hfL G (min (i + 1) n)).length ((hfL G (min (i + 1) n)).map encI)) := by
          have h1 : hfL G (min (i + 1) n) = hfL G (min i n) := by
            by_cases hin : i < n
            · rw [show min (i + 1) n = i + 1 by omega, show min i n = i by omega, hfL_no hGH.out]
            · rw [show min (i + 1) n = min i n by omega]
          rw [h1]
          have h2 := own_new hownH.out hn4
          exact h2.kept (grown_set _ _ _ _) (.inr (row_ne_own h2 hro4.out (by decide)))
        clear hgg hrow hro4 hclone hro hownH hvn hcc hn4
        go_wp2
        go_roundw
        case rel => exact ⟨i + 1, _, _, _, _, by go_num, by omega, hl1.out, hv'.out, hlo5.out⟩
        case measure => simp [intOf]; omega
      | true =>
        rw [hG] at cg1
        by_cases hin : i < n
        · have hini : (i : Int) < (n : Int) := by omega
          have hmin : min i n = i := by omega
          rw [hmin] at hown
          have hl15 : (hfL G i).length ≤ 15 := by have := hfL_len G i; omega
          obtain ⟨l, hl⟩ : ∃ l, Hid (l = hfL G i) := ⟨_, rfl⟩
          rw [← hl.out] at hown hl15
          have hwsz := hro.out.nw.size
          have hsz0i : (0 : Int) ≤ (sz : Int) := by omega
          go_wp2_with fail
          have hneO : u9.ownBlock ≠ some o := row_ne_own hown hro.out.out (by decide)
          have hzer : Hid (∀ j, j < sz → byV (rb0 G M i) j = .int .u8 0) := fun j hj => by unfold byV rb0; rw [if_pos hG]; rfl
          have hnX := New.refl w3
          go_region_law (refine step_append_lies _ (by rfl) _ _ _ (by rfl) w.heap.size 3 i0 _ 1 8 Try.underlying29 hi0 hz0 hz1 hz2 rfl (by decide) _ l.length (l.map encI) (by rfl) (by first | exact (hown.alloc _).drew | exact ((hown.alloc _).alloc _).drew) _ 1 1 [.int .i64 i] (by rfl) (by rfl) (by first | exact World.news_of_block (cs := #[.int .i64 _]) (t := 3) (fr := (0, 0)) (heap_alloc_new w3 _) | exact World.news_of_block (cs := #[.int .i64 _]) (t := 3) (fr := (0, 0)) ((Below.heap_alloc _ _ _ (by simp)).trans (heap_alloc_new w3 _)) | exact World.news_of_block (cs := #[.int .i64 _]) (t := 3) (fr := (0, 0)) (by have := heap_alloc_new (w3.alloc (.cells (madeCells #[.int .u8 0] sz) 5)) (.cells #[.int .i64 (i : Int)] 3); simp only [World.size_alloc] at this; exact this)) (by simp [Value.oneCell']) (by omega) (by unfold maxLen; omega) (by omega) (by simp; omega) _ rfl ?_; intro g3 c3 w4 hown3 hgrow hat hlt3; have hro4 := RO.apart (hro.out.new (by first | exact (hnX.alloc _).drew | exact ((hnX.alloc _).alloc _).drew)) (by first | exact (hown.alloc _).drew | exact ((hown.alloc _).alloc _).drew) hgrow (Nat.le_refl _); have co4 := hro4.out.cell hlt; rw [hvn.out i (.inl (Nat.le_refl _))] at co4; have cf4 := hro4.out.frozen i; have co5 : ∀ ob, (w4.alloc ob).cell? ⟨o, i, none⟩ = some (.slice none 0 0) := fun ob => (((New.refl w4).alloc ob).cell (lt_of_cell co4)).trans co4; have cf5 : ∀ ob, (w4.alloc ob).frozen? ⟨o, i, none⟩ = false := fun ob => (hro4.new ((New.refl w4).alloc ob)).out.frozen i; have hz4 := hgrow.size)
          all_goals
            have hlist : Hid (hfL G (min (i + 1) n) = l ++ [i]) := by
              rw [show min (i + 1) n = i + 1 by omega, hfL_yes hG, hl.out]; exact rfl
            clear co4 cf4 co5 cf5 hlt3 hat
            obtain ⟨hl1, hl2⟩ := (by
              first
                | (have hgr : ((w3.alloc (.cells (madeCells #[.int .u8 0] sz) 5)).alloc (.cells #[.int .i64 (i : Int)] 3)).drew.grownBy w4 u9.ownBlock := hgrow
                   have hrow := row_grown (((World.rowIs_made w3 (.int .u8 0) sz 5).alloc (.cells #[.int .i64 (i : Int)] 3)).drew) hgr (row_ne_own (((hown.alloc _).alloc _).drew) (((World.rowIs_made w3 (.int .u8 0) sz 5).alloc (.cells #[.int .i64 (i : Int)] 3)).drew) (by decide))
                   exact RO.layH hro4 hin hG hrow hzer.out (Nat.le_refl _) hwsz hsl hown3)
                | (have hgr : ((w3.alloc (.cells #[.int .i64 (i : Int)] 3)).alloc (.cells (madeCells #[.int .u8 0] sz) 5)).drew.grownBy w4 u9.ownBlock := hgrow
                   have hrow := row_grown (World.rowIs_made (w3.alloc (.cells #[.int .i64 (i : Int)] 3)) (.int .u8 0) sz 5).drew hgr (row_ne_own (((hown.alloc _).alloc _).drew) (World.rowIs_made (w3.alloc (.cells #[.int .i64 (i : Int)] 3)) (.int .u8 0) sz 5).drew (by decide))
                   simp only [World.size_alloc] at hrow
                   exact RO.layH hro4 hin hG hrow hzer.out (by omega) hwsz hsl hown3)
                | (have hgr : (w3.alloc (.cells #[.int .i64 (i : Int)] 3)).drew.grownBy w4 u9.ownBlock := hgrow
                   exact RO.layH (hro4.new ((New.refl w4).alloc _)) hin hG (World.rowIs_made w4 (.int .u8 0) sz 5) hzer.out (by have := hgr.size; simp at this; omega) hwsz hsl (hown3.alloc _)))
            have e1 : Hid ((hfL G (min (i + 1) n)).length = l.length + 1) := by rw [hlist.out, List.length_append]; exact rfl
            have e2 : Hid ((hfL G (min (i + 1) n)).map encI = l.map encI ++ [.int .i64 i]) := by rw [hlist.out, List.map_append]; exact rfl
            have hl2H := Lib.hid hl2
            have hl1H := Lib.hid hl1
            have hv' : Hid (∀ (x : Value) k, (i + 1 ≤ k ∨ ¬ Pr n G k) → up V i x k = .slice none 0 0) := fun x k hk => by
              have hne : k ≠ i := by
                intro e
                subst e
                rcases hk with hk | hk
                · omega
                · exact hk (.inl hin)
              rw [up_ne _ _ hne]
              exact hvn.out k (hk.elim (fun h => .inl (by omega)) .inr)
            clear hl1 hl2 hown3 hgrow hro4 hzer hz4
            go_wp2
            go_roundw
            case rel => exact ⟨i + 1, _, _, _, _, by go_num, by omega, hl1H.out, hv'.out _, by rw [e1.out, e2.out]; exact hl2H.out⟩
            case measure => simp [intOf]; omega
        · have hini : ¬ (i : Int) < (n : Int) := by omega
          have hs2 : Hid (RO w o N (i + 1) n sz w3.heap.size G V Ad Gr Cp (rb0 G M) w3) := hro.out.skip (by
            intro h
            rcases h with h | h
            · exact hin h
            · rw [hG] at h; cases h)
          have hv' : Hid (∀ k, (i + 1 ≤ k ∨ ¬ Pr n G k) → V k = .slice none 0 0) := fun k hk => hvn.out k (hk.elim (fun h => .inl (by omega)) .inr)
          have hown2 : Hid (w3.ownsRow w.heap.size 3 1 u9 (hfL G (min (i + 1) n)).length ((hfL G (min (i + 1) n)).map encI)) := by
            rw [show min (i + 1) n = min i n by omega]; exact hown
          clear hown hro hvn
          go_wp2
          go_roundw
          case rel => exact ⟨i + 1, _, _, _, _, by go_num, by omega, hs2.out, hv'.out, hown2.out⟩
          case measure => simp [intOf]; omega
    · have hiN : i = N := by omega
      subst hiN
      rw [show min i n = n by omega] at hown
      obtain ⟨h, hh⟩ : ∃ h, Hid (h = (hfL G n).length) := ⟨_, rfl⟩
      obtain ⟨AH, cH, hvE, hcH1, hcH2, hAH, _⟩ := own_open hown
      rw [← hh.out] at hvE
      obtain rfl : u9 = .slice AH h cH := hvE
      have hh12 : h ≤ 12 := by rw [hh.out]; exact Nat.le_trans (hfL_len G n) n12
      have hhpf : Hid (h ≤ (pfL G n p).length) := by rw [hh.out]; exact hpf0.out
      have hnegi : ¬ (i : Int) < (i : Int) := by omega
      have hownH := Lib.hid hown
      have hrH := Lib.hid hro
      have hwsz := hro.out.nw.size
      have hAHl : Hid (∀ g, AH = some ⟨g, 0, none⟩ → g < w3.heap.size) := fun g e => by
        rcases hownH.out.2 with ⟨h1, _⟩ | ⟨g', cap, cur, h1, _, hg1, _⟩
        · cases h1; cases e
        · cases h1; cases e
          exact (Array.getElem?_eq_some_iff.1 hg1).1
      clear hown hAH hcH1 hro hlt hi hvn
      go_wp2_with fail
      go_loopw [13, 10] (fun x uv wr => ∃ (q j : Nat), x = .int .i64 j ∧ Hid (j = n + q) ∧ j ≤ i ∧ q ≤ p ∧ (pfL G n q).length ≤ h ∧ wr.ownsRow w3.heap.size 3 1 uv (pfL G n q).length ((pfL G n q).map encI) ∧ Hid (RO w o i i n sz w3.heap.size G V Ad Gr Cp (rb0 G M) wr) ∧ Hid (wr.ownsRow w.heap.size 3 1 (.slice AH h cH) (hfL G n).length ((hfL G n).map encI)) ∧ Hid (w3.heap.size ≤ wr.heap.size)) (fun x _ _ => i - (intOf x).toNat)
      case atStart => exact ⟨0, n, rfl, rfl, by omega, by omega, Nat.zero_le _, World.ownsRow_nil _ _ _ _, hrH.out, hownH.out, Nat.le_refl _⟩
      case round =>
        clear hrH hownH
        obtain ⟨q, j, rfl, hj, hji, hqp, hqh, huv, hro, hhv, hws⟩ := hrel
        obtain ⟨w5, rfl⟩ : ∃ w5, w5 = wr := ⟨wr, rfl⟩
        obtain ⟨AU, cU, hue, hcU1, hcU2, _, _⟩ := own_open huv
        obtain ⟨lu, hlu⟩ : ∃ lu, Hid (lu = (pfL G n q).length) := ⟨_, rfl⟩
        rw [← hlu.out] at hue hqh
        obtain rfl : u10 = .slice AU lu cU := hue
        by_cases hgo : j < i ∧ lu < h
        · obtain ⟨hjl, hlul⟩ := hgo
          have hjn : (j : Int) - (n : Int) = (q : Int) := by have := hj.out; omega
          have cg1 : w5.cell? ⟨gg, j, none⟩ = some (.bool (G j)) := (row_new hg0.out hro.out.nw).cell hjl
          have a0 : (0 : Int) ≤ (j : Int) := by omega
          have a1 : (j : Int) < (i : Int) := by omega
          have a2 : (lu : Int) < (h : Int) := by omega
          have hqn : q + 1 ≤ p := by have := hj.out; have := hNH.out; omega
          cases hG : G j with
          | true =>
            rw [hG] at cg1
            have hpn : Hid (pfL G n (q + 1) = pfL G n q) := pfL_no (by rw [← hj.out]; exact hG)
            have huv2 := Lib.hid huv
            clear huv hG
            go_wp2
            go_roundw
            case rel => exact ⟨q + 1, j + 1, by go_num, (by have := hj.out; show j + 1 = n + (q + 1); omega), by omega, hqn, by rw [hpn.out, ← hlu.out]; exact hqh, by rw [hpn.out, ← hlu.out] ; rw [← hlu.out] at huv2; exact huv2.out, hro.out, hhv.out, hws.out⟩
            case measure => simp [intOf]; omega
          | false =>
            rw [hG] at cg1
            have hpn : Hid (pfL G n (q + 1) = pfL G n q ++ [q]) := pfL_yes (by rw [← hj.out]; exact hG)
            obtain ⟨pl, hpl⟩ : ∃ pl, Hid (pl = pfL G n q) := ⟨_, rfl⟩
            rw [← hpl.out] at huv hpn hlu
            rw [← hlu.out] at huv
            have hws5 := hws.out
            clear hG
            go_wp2_with (at_builtin; refine wpList_append_own _ rfl _ _ 29 rfl w3.heap.size 3 i0 _ 1 8 Try.underlying29 hi0 hz0 hz1 hz2 rfl (by decide) _ lu (pl.map encI) rfl (huv.alloc _) ⟨w5.heap.size, 0, none⟩ 1 1 [.int .i64 q] rfl rfl (World.news_of_block (cs := #[.int .i64 _]) (t := 3) (fr := (0, 0)) (heap_alloc_new w5 _)) (by simp [Value.oneCell']) (by unfold maxLen; omega) (by omega) (by simp; omega) ?_; intro v6 w6 hown6 hgrow hnil)
            have hlo6 : ∀ r, (Value.slice AU lu cU).ownBlock = some r → w3.heap.size ≤ r := fun r e => ((huv.alloc (.cells #[.int .i64 (q : Int)] 3)).lt _ e).1
            have hro6 := Lib.hid ((hro.out.new ((New.refl w5).alloc _)).far hgrow hlo6)
            have hhv6 : Hid (w6.ownsRow w.heap.size 3 1 (.slice AH h cH) (hfL G n).length ((hfL G n).map encI)) := by
              refine (hhv.out.alloc _).kept hgrow ?_
              by_cases e : (Value.slice AH h cH).ownBlock = none
              · exact .inl e
              · right
                intro e2
                obtain ⟨g, hg⟩ := Option.ne_none_iff_exists'.1 e
                rw [hg] at e2
                have h1 := hlo6 g e2.symm
                rcases hhv.out.2 with ⟨h2, _⟩ | ⟨g', cap, cur, h2, _⟩
                · cases h2; cases hg
                · cases h2
                  have h3 := hAHl.out g' rfl
                  have h4 : g' = g := by simpa [Value.ownBlock] using hg
                  omega
            have hown7 : Hid (w6.ownsRow w3.heap.size 3 1 v6 (pfL G n (q + 1)).length ((pfL G n (q + 1)).map encI)) := by
              rw [hpn.out, List.length_append, List.map_append, ← hlu.out]
              exact hown6
            have hws6 : Hid (w3.heap.size ≤ w6.heap.size) := by have := hgrow.size; simp at this; show _ ≤ _; omega
            have hl7 : Hid ((pfL G n (q + 1)).length ≤ h) := by rw [hpn.out, List.length_append, ← hlu.out]; exact hlul
            clear huv hown6 hgrow hnil hlo6 hro hhv hws
            go_wp2
            go_roundw
            case rel => exact ⟨q + 1, j + 1, by go_num, (by have := hj.out; show j + 1 = n + (q + 1); omega), by omega, hqn, hl7.out, hown7.out, hro6.out, hhv6.out, hws6.out⟩
            case measure => simp [intOf]; omega
        · have hluh : lu = h := by
            have h1 := hlu.out
            have h2 := hhpf.out
            by_cases hjl : j < i
            · omega
            · have h3 := hj.out
              have h4 := hNH.out
              obtain rfl : q = p := by omega
              omega
          subst hluh
          have hnegj : ¬ (j < i ∧ lu < lu) := by omega
          have hfill : Hid (Calls Try.prog 49 #[.slice (some ⟨o, 0, none⟩) i i, .int .i64 n, .slice AH lu cH, .slice AU lu cU] w5 fun e w' => e = .returned (.tuple #[]) ∧ RO w o i i n sz w5.heap.size G V Ad Gr Cp (rbD G n p M) w' ∧ ∀ g m f, w5.rowIs g 4 m f → w'.rowIs g 4 m f) := by
            by_cases hz : lu = 0
            · refine (fill_none n lu i i cH cU lu _ _ _ w5 (by subst hz; rfl)).mono ?_
              rintro e w' ⟨he, rfl⟩
              refine ⟨he, ?_, fun g m f h => h⟩
              have hD : rbD G n p M = rb0 G M := by
                unfold rbD
                rw [← hh.out, hz]
                rfl
              rw [hD]
              exact hro.out.later hws.out
            · have h1 := hhv.out
              rw [← hh.out] at h1
              obtain ⟨gH, cH', he1, _, _⟩ := h1.form (by omega)
              cases he1
              have h2 := huv
              rw [← hlu.out] at h2
              obtain ⟨gU, cU', he2, _, _⟩ := h2.form (by omega)
              cases he2
              have kH : RowK 3 .i64 w5 gH lu (fun a => (hfL G n).getD a 0) := by
                rw [← numL_list, ← hh.out] at h1
                exact RowK.of_own h1
              have kU : RowK 3 .i64 w5 gU lu (fun b => (pfL G n p).getD b 0) := by
                rw [← numL_list, ← hlu.out] at h2
                exact (RowK.of_own h2).congr fun b hb => pfL_pre G n hqp (by rw [← hlu.out]; exact hb)
              have hP := Pl_of (N := i) (n := n) (p := p) (G := G) (by rw [← hh.out]; omega) (by rw [← hh.out]; exact hhpf.out) p3 n1 n12 hNH.out
              rw [← hh.out] at hP
              have := fill_any gH cH gU cU o i i n sz lu G V Ad Gr Cp (rb0 G M) (fun b => (pfL G n p).getD b 0) (fun a => (hfL G n).getD a 0) w w5 (hro.out.later hws.out) kH kU hP hsl (Nat.le_refl _) (by unfold maxLen; omega) (fun a ha t ht => by
                show (if G ((hfL G n).getD a 0) = true then 0 else _) = 0
                rw [if_pos (hP.hl a ha).2])
              refine this.mono ?_
              rintro e w' ⟨he, h3, h4⟩
              refine ⟨he, ?_, h4⟩
              unfold rbD
              rw [← hh.out]
              exact h3
          have hgg5 := Lib.hid (row_new hg0.out hro.out.nw)
          have hwsz5 : Hid (w.heap.size ≤ w5.heap.size) := hro.out.nw.size
          clear huv hhv hro
          by_cases hjl : j < i
          all_goals
            have hlul : ¬ (lu : Int) < (lu : Int) := by omega
            go_wp2_with fail
            refine hfill.out.mono ?_
            rintro e w6 ⟨rfl, hro6, hoth⟩
            have hro60 : Hid (RO w o i i n sz w6.heap.size (Gj G n n) V Ad Gr Cp (Fj G n p M n) w6) := by
              rw [Gj_start]
              exact hro6.alive.congr (fun k t _ _ _ => by unfold Fj; rw [if_neg (by omega)]) (Fj_lt G n p M n)
            have hgg6 := Lib.hid (hoth gg i _ hgg5.out)
            clear hro6 hoth hfill hgg5
            go_wp2_with fail
            go_loopw [14] (fun x wr => ∃ (j : Nat) (V : Nat → Value) (Ad : Nat → Option Addr) (Gr Cp : Nat → Nat), x = .int .i64 j ∧ n ≤ j ∧ j ≤ i ∧ Hid (RO w o i i n sz wr.heap.size (Gj G n j) V Ad Gr Cp (Fj G n p M j) wr) ∧ Hid (wr.rowIs gg 4 i (boV G))) (fun x _ => i - (intOf x).toNat)
            case atStart => exact ⟨n, _, _, _, _, rfl, Nat.le_refl _, by omega, hro60.out, hgg6.out⟩
            case round =>
              clear hro60 hgg6
              obtain ⟨j3, V3, Ad3, Gr3, Cp3, rfl, hnj, hji3, hr3, hg3⟩ := hrel
              obtain ⟨w7, rfl⟩ : ∃ w7, w7 = wr := ⟨wr, rfl⟩
              by_cases hj3 : j3 < i
              · have cg3 := hg3.out.cell hj3
                have hbv : boV G j3 = .bool (G j3) := rfl
                rw [hbv] at cg3
                have a0 : (0 : Int) ≤ (j3 : Int) := by omega
                have a1 : (j3 : Int) < (i : Int) := by omega
                clear hbv
                cases hG3 : G j3 with
                | false =>
                  rw [hG3] at cg3
                  have hr4 : Hid (RO w o i i n sz w7.heap.size (Gj G n (j3 + 1)) V3 Ad3 Gr3 Cp3 (Fj G n p M (j3 + 1)) w7) := by
                    rw [Gj_same G hG3]
                    exact hr3.out.congr (fun k t _ _ _ => by
                      unfold Fj
                      by_cases e : n ≤ k ∧ k < j3 ∧ G k = true
                      · rw [if_pos e, if_pos ⟨e.1, by omega, e.2.2⟩]
                      · rw [if_neg e, if_neg]
                        rintro ⟨e1, e2, e3⟩
                        by_cases e4 : k = j3
                        · rw [e4, hG3] at e3; cases e3
                        · exact e ⟨e1, by omega, e3⟩) (Fj_lt G n p M _)
                  clear hG3 hr3
                  go_wp2
                  go_roundw
                  case rel => exact ⟨j3 + 1, _, _, _, _, by go_num, by omega, by omega, hr4.out, hg3.out⟩
                  case measure => simp [intOf]; omega
                | true =>
                  rw [hG3] at cg3
                  obtain ⟨q3, hq3⟩ : ∃ q3, Hid (q3 = j3 - n) := ⟨_, rfl⟩
                  have hjn3 : (j3 : Int) - (n : Int) = (q3 : Int) := by have := hq3.out; omega
                  have hq33 : q3 ≤ 3 := by have := hq3.out; have := hNH.out; omega
                  have hG3H := Lib.hid hG3
                  have henc := Lib.hid (encode_any (some ⟨o, 0, none⟩) n i sz q3 _ _ _ _ w7 (hr3.out.rdM (by omega) (Nat.le_refl _) hN15 hsl) (fun k hk t ht => by have := Fj_lt G n p M j3 k t; omega) (fun _ _ => rfl) n1 n12 hsl hq33)
                  have hnci : (n : Int) ≤ (i : Int) := by omega
                  clear hG3
                  go_wp2_with fail
                  refine henc.out.mono ?_
                  rintro e w8 ⟨g8, rfl, hr8, hn8, hg8⟩
                  have hro8 := hr3.out.new hn8
                  have co8 := hro8.out.cell hj3
                  have cf8 := hro8.out.frozen j3
                  have hws8 := hr3.out.nw.size
                  have hrow8 : w8.rowIs g8 5 sz (byV (enN q3 (fun i t => (rbD G n p M i t : Nat)) n)) := hr8.congr fun t ht => by
                    unfold byV
                    rw [enN_congr q3 (M' := fun i t => (rbD G n p M i t : Nat)) fun k hk => ?_]
                    show ((Fj G n p M j3 k t : Nat) : Int) = ((rbD G n p M k t : Nat) : Int)
                    unfold Fj
                    rw [if_neg (by omega)]
                  have hadd := hro8.add (j := j3) (g := g8) hj3 hnj hrow8 (fun t => enN_lt _ _ _ _) hg8 hws8 hsl (by
                    show (if n ≤ j3 ∧ j3 < j3 then false else G j3) = true
                    rw [if_neg (by omega)]; exact hG3H.out)
                  rw [Gj_next G hnj] at hadd
                  have hr4 := Lib.hid (hadd.congr (F' := Fj G n p M (j3 + 1)) (fun k t _ _ _ => by
                    unfold up Fj
                    by_cases e4 : k = j3
                    · subst e4
                      rw [if_pos rfl, if_pos ⟨hnj, by omega, hG3H.out⟩, hq3.out]
                    · rw [if_neg e4]
                      by_cases e : n ≤ k ∧ k < j3 ∧ G k = true
                      · rw [if_pos e, if_pos ⟨e.1, by omega, e.2.2⟩]
                      · rw [if_neg e, if_neg]
                        rintro ⟨e1, e2, e3⟩
                        exact e ⟨e1, by omega, e3⟩) (Fj_lt G n p M _))
                  have hg4 : Hid ((w8.setCell ⟨o, j3, none⟩ (.slice (some ⟨g8, 0, none⟩) sz sz)).rowIs gg 4 i (boV G)) := row_grown (row_new hg3.out hn8) (grown_set _ _ _ _) (fun e => row_typ (row_new hg3.out hn8) hro8.out (by decide) (by cases e; rfl))
                  generalize V3 j3 = vj at co8
                  clear hadd hrow8 hr8 hro8 hn8 hr3 henc
                  go_wp2
                  go_roundw
                  case rel => exact ⟨j3 + 1, _, _, _, _, by go_num, by omega, by omega, hr4.out, hg4.out⟩
                  case measure => simp [intOf]; omega
              · have hj3i : j3 = i := by omega
                subst hj3i
                have hfin : Hid (BuiltP j3 sz (rbF G n p M) w (.returned (.slice (some ⟨o, 0, none⟩) j3 j3)) w7) := by
                  have h1 := (hr3.out.congr (F' := fun k t => if k < j3 then rbF G n p M k t else 0) (fun k t hk _ _ => by
                    rw [if_pos hk]
                    unfold Fj rbF
                    by_cases e : n ≤ k ∧ G k = true
                    · rw [if_pos ⟨e.1, hk, e.2⟩, if_pos e]
                    · rw [if_neg e, if_neg (fun e2 => e ⟨e2.1, e2.2.2⟩)]) (fun k t => by
                    split
                    · exact rbF_lt G n p M k t
                    · omega))
                  have h2 := h1.rdAll hN15 hsl (fun k hk => by
                    by_cases e : k < n
                    · exact .inl e
                    · right
                      show (if n ≤ k ∧ k < j3 then false else G k) = false
                      rw [if_pos ⟨by omega, hk⟩])
                  refine ⟨o, Ad3, Cp3, rfl, ⟨h2.1, h2.2.1, fun k hk => ⟨?_, (h2.2.2 k hk).2⟩⟩, hr3.out.nw⟩
                  have h3 := (h2.2.2 k hk).1
                  simp only [if_pos hk] at h3
                  exact h3
                clear hr3 hg3
                go_wp2
                go_ret
                exact hfin.out
end Go.Proofs.Ytjmjnodaohbpfaa.par

/-
  Contract of par.Rebuild.
-/
namespace Go.Proofs.Ytjmjnodaohbpfaa.par
open Go.ChangeShapes Go.WideShapes Go.ChangeAt Go.RowKit Go.Proofs.Ytjmjnodaohbpfaa.kit Go.Proofs.Ytjmjnodaohbpfaa.gf Go.Proofs.Ytjmjnodaohbpfaa.fld Go.Deep
set_option linter.unusedVariables false
set_option maxRecDepth 100000

theorem filter_or {l : List Nat} (a b : Nat → Bool) : (l.filter fun k => a k || b k).length ≤ (l.filter a).length + (l.filter b).length := by
  induction l with
  | nil => simp
  | cons x l ih =>
    simp only [List.filter_cons]
    cases a x <;> cases b x <;> simp <;> omega
theorem filter_one (N : Nat) (z : Int) : ((List.range N).filter fun k : Nat => decide (z = (k : Int))).length ≤ 1 := by
  induction N with
  | zero => simp
  | succ N ih =>
    rw [List.range_succ, List.filter_append, List.length_append]
    by_cases h : z = (N : Int)
    · have h0 : ((List.range N).filter fun k : Nat => decide (z = (k : Int))) = [] := by
        rw [List.filter_eq_nil_iff]
        intro k hk
        have := List.mem_range.1 hk
        simp
        omega
      rw [h0]
      simp [h]
    · simp [h]
      exact ih
theorem gn_cnt (D : Nat → Int) (N : Nat) : ∀ m, ((List.range N).filter (gn D m)).length ≤ m
  | 0 => by
    have : (List.range N).filter (gn D 0) = [] := by
      rw [List.filter_eq_nil_iff]
      intro k _
      simp [gn, hasD_zero]
    rw [this]
    simp
  | m + 1 => by
    have h1 : (List.range N).filter (gn D (m + 1)) = (List.range N).filter fun k => gn D m k || decide (D m = (k : Int)) := List.filter_congr fun k _ => hasD_succ D m k
    rw [h1]
    have h2 := filter_or (l := List.range N) (gn D m) (fun k => decide (D m = (k : Int)))
    have h3 := gn_cnt D N m
    have h4 := filter_one N (D m)
    omega
theorem not_cnt (l : List Nat) (a : Nat → Bool) : (l.filter a).length + (l.filter fun k => !a k).length = l.length := by
  induction l with
  | nil => rfl
  | cons x l ih =>
    simp only [List.filter_cons]
    cases h : a x <;> simp <;> omega
/-- few enough are gone -/
theorem gn_few {D : Nat → Int} {N n p m : Nat} (hN : N = n + p) (hm : m ≤ p) : (hfL (gn D m) n).length ≤ (pfL (gn D m) n p).length := by
  have h1 := gn_cnt D N m
  rw [hN, List.range_add, List.filter_append, List.length_append] at h1
  have h2 := not_cnt (List.range p) (fun j => gn D m (n + j))
  rw [List.filter_map, List.length_map] at h1
  simp only [List.length_range] at h2
  unfold hfL pfL
  have h3 : ((List.range p).filter ((gn D m) ∘ fun x => n + x)).length = ((List.range p).filter fun j => gn D m (n + j)).length := rfl
  omega
theorem lf_some {D : Nat → Int} {N p m : Nat} (hN : p < N) (hm : m ≤ p) : lf (gn D m) N ≠ [] := by
  intro h
  have h1 := gn_cnt D N m
  have h2 := not_cnt (List.range N) (gn D m)
  unfold lf at h
  rw [h] at h2
  simp at h2
  omega
def RebP (N : Nat) (L : Nat → Nat) (p : Int) (D : Nat → Int) (m : Nat) (M : Nat → Nat → Int) (w : World) (e : Ending) (w' : World) : Prop :=
  ∃ A c Ad Cp, e = .returned (.tuple #[.slice A (if rbCode N L p D m = 0 then N else 0) c, .int .i64 (rbCode N L p D m)]) ∧
    RdM .u8 w' A (if rbCode N L p D m = 0 then N else 0) Ad (fun _ => lSize (gn D m) L N) Cp (fun k t => (rbF (gn D m) (N - p.toNat) p.toNat M k t : Nat)) ∧ New w w'
theorem RebP_bad {N : Nat} {L : Nat → Nat} {p : Int} {D : Nat → Int} {m : Nat} {M : Nat → Nat → Int} {w : World} {e : Ending} {w' : World} {cd : Int} (hc : rbCode N L p D m = cd) (h0 : cd ≠ 0) (he : e = .returned (.tuple #[.slice none 0 0, .int .i64 cd])) (hn : New w w') : RebP N L p D m M w e w' := by
  unfold RebP
  rw [hc, if_neg h0]
  exact ⟨none, 0, fun _ => none, fun _ => 0, he, nil_rdM _ _ _ _ _ _, hn⟩
theorem Rebuild_range (N c m d : Nat) (p : Int) (A B : Option Addr) (w : World) (hN : N ≤ maxLen) (hp1 : -9223372036854775808 ≤ p) (hp2 : p ≤ 9223372036854775807) (h : ¬ rgP N p) :
    Calls Try.prog 13 #[.slice A N c, .int .i64 p, .slice B m d] w fun e w' => e = .returned (.tuple #[.slice none 0 0, .int .i64 2]) ∧ w = w' := by
  unfold maxLen at hN
  unfold rgP at h
  by_cases hp : 1 ≤ p ∧ p ≤ 3
  · have hd : decide (1 ≤ p ∧ p ≤ 3) = true := decide_eq_true hp
    have hmax : max (0 : Int) p = p := by omega
    have hp1' := hp.1
    have hp3' := hp.2
    by_cases hNp : (N : Int) ≤ p
    · have hmin : min (N : Int) p = N := by omega
      clear h hp
      go_enter Try.func13, Try.ntmps13
      go_wp2_with fail
      refine (some_any _ _).mono ?_
      rw [hd]
      rintro e w1 ⟨rfl, rfl⟩
      go_wp2
      go_ret2
      exact ⟨rfl, rfl⟩
    · have hmin : min (N : Int) p = p := by omega
      have h1 : ¬ (N : Int) - p < 1 := by omega
      have h2 : 12 < (N : Int) - p := by omega
      clear h hp
      go_enter Try.func13, Try.ntmps13
      go_wp2_with fail
      refine (some_any _ _).mono ?_
      rw [hd]
      rintro e w1 ⟨rfl, rfl⟩
      go_wp2
      go_ret2
      exact ⟨rfl, rfl⟩
  · have hd : decide (1 ≤ p ∧ p ≤ 3) = false := decide_eq_false hp
    obtain ⟨x, hx, hx1, hx2⟩ : ∃ x : Int, min (N : Int) (max 0 p) = x ∧ 0 ≤ x ∧ x ≤ N := ⟨_, rfl, by omega, by omega⟩
    clear h hp
    by_cases hp0 : p ≤ 0
    · have hmax : max (0 : Int) p = 0 := by omega
      have hmin : min (N : Int) 0 = 0 := by omega
      clear hx hx1 hx2
      go_enter Try.func13, Try.ntmps13
      go_wp2_with fail
      refine (some_any _ _).mono ?_
      rw [hd]
      rintro e w1 ⟨rfl, rfl⟩
      go_wp2
      go_ret2
      exact ⟨rfl, rfl⟩
    · have hmax : max (0 : Int) p = p := by omega
      rw [hmax] at hx
      go_enter Try.func13, Try.ntmps13
      go_wp2_with fail
      refine (some_any _ _).mono ?_
      rw [hd]
      rintro e w1 ⟨rfl, rfl⟩
      go_wp2
      go_ret2
      exact ⟨rfl, rfl⟩
set_option maxHeartbeats 2000000 in
theorem Rebuild_any (N c m d : Nat) (p : Int) (A B : Option Addr) (D : Nat → Int) (R : Nat → Option Addr) (L C : Nat → Nat) (M : Nat → Nat → Int) (w : World) (hM : RdM .u8 w A N R L C M) (hb : ∀ i, i < N → ∀ k, k < L i → 0 ≤ M i k ∧ M i k ≤ 255)
    (hD : RdI .i64 w B m D) (hp1 : -9223372036854775808 ≤ p) (hp2 : p ≤ 9223372036854775807) :
    Calls Try.prog 13 #[.slice A N c, .int .i64 p, .slice B m d] w (RebP N L p D m M w) := by
  by_cases hrg : rgP N p
  · obtain ⟨r1, r2, r3, r4⟩ := id hrg
    obtain ⟨pn, rfl⟩ : ∃ pn : Nat, (pn : Int) = p := ⟨p.toNat, by omega⟩
    obtain ⟨n, hn'⟩ : ∃ n, Hid (N = n + pn) := ⟨N - pn, (by show N = N - pn + pn; omega)⟩
    have n1 : 1 ≤ n := by have := hn'.out; omega
    have n12 : n ≤ 12 := by have := hn'.out; omega
    have p1 : 1 ≤ pn := by omega
    have p3 : pn ≤ 3 := by omega
    have hN15 : N ≤ 15 := by omega
    have hmm := hD.1
    unfold maxLen at hmm
    have hd : decide ((1 : Int) ≤ (pn : Int) ∧ (pn : Int) ≤ 3) = true := decide_eq_true (by omega)
    have hmax : max (0 : Int) (pn : Int) = pn := by omega
    have hmin : min (N : Int) (pn : Int) = pn := by omega
    have hsub : (N : Int) - (pn : Int) = (n : Int) := by have := hn'.out; omega
    have hn12i : ¬ 12 < (n : Int) := by omega
    have hn1i : ¬ (n : Int) < 1 := by omega
    have hM0 := Lib.hid hM
    have hD0 := Lib.hid hD
    have hb0 := Lib.hid hb
    have hrg0 := Lib.hid hrg
    have hmk := run_make_row' (P := Try.prog) 48 4 (.bool false) 1 Try.underlying48 (by kernel_rfl) rfl .i64 .i64 N (by omega) (by omega)
    have hrow0 : Hid ((w.alloc (.cells (madeCells #[.bool false] N) 4)).rowIs w.heap.size 4 N (boV (gn D 0))) := (World.rowIs_made w (.bool false) N 4).congr fun i _ => rfl
    clear hM hD hb hrg
    go_enter Try.func13, Try.ntmps13
    go_wp2_with fail
    refine (some_any _ _).mono ?_
    rw [hd]
    rintro e w1 ⟨rfl, rfl⟩
    go_wp2_with fail
    go_loopw [37, 10] (fun x cv wr => ∃ i : Nat, x = .int .i64 i ∧ i ≤ m ∧ cv = .int .i64 (if dupD D i = true then 7 else 0) ∧ Hid (∀ t, t < i → ¬ outP N D t) ∧ Hid (wr.rowIs w.heap.size 4 N (boV (gn D i))) ∧ Hid (New w wr)) (fun x _ _ => m - (intOf x).toNat)
    case atStart => exact ⟨0, rfl, by omega, rfl, fun t ht => absurd ht (by omega), hrow0.out, (New.refl w).alloc _⟩
    case round =>
      clear hrow0
      obtain ⟨i, rfl, hi, rfl, hno, hrow, hnw⟩ := hrel
      obtain ⟨w1, rfl⟩ : ∃ w1, w1 = wr := ⟨wr, rfl⟩
      obtain ⟨cv, hcv⟩ : ∃ cv : Int, Hid (cv = if dupD D i = true then 7 else 0) := ⟨_, rfl⟩
      rw [← hcv.out]
      by_cases hlt : i < m
      · obtain ⟨b, off, rfl, hb, hcs⟩ := hD0.out.2 (by omega)
        have c0 := (hnw.out.cell hb).trans (hcs i hlt)
        have a0 : (0 : Int) ≤ (i : Int) := by omega
        have a1 : (i : Int) < (m : Int) := by omega
        clear hcs
        by_cases hin : outP N D i
        · have href := Lib.hid (refused_any N c m d 2 A (some ⟨b, off, none⟩) D R L C M w1 (hM0.out.new hnw.out) (hD0.out.new hnw.out) hN15)
          have hcode : Hid (rbCode N L pn D m = if lOK (gn D m) L N = true then 2 else 4) := by
            show _ = _
            unfold rbCode
            rw [if_neg (fun h => h hrg0.out)]
            cases lOK (gn D m) L N with
            | false => rfl
            | true =>
              rw [if_neg (by simp), if_pos (outD_true.2 ⟨i, hlt, hin⟩)]
              rfl
          obtain ⟨cd, hcd⟩ : ∃ cd : Int, Hid (cd = if lOK (gn D m) L N = true then 2 else 4) := ⟨_, rfl⟩
          rw [← hcd.out] at href hcode
          have hcd0 : Hid (cd ≠ 0) := by show cd ≠ 0; rw [hcd.out]; split <;> omega
          unfold outP at hin
          have hins : D i < 0 ∨ ¬ D i < 0 ∧ (N : Int) ≤ D i := by omega
          generalize D i = di at c0 hin hins
          clear hin
          rcases hins with hin | ⟨hin0, hin⟩
          all_goals
            go_wp2_with fail
            refine href.out.mono ?_
            rintro e w2 ⟨rfl, hn2⟩
            have hfin := Lib.hid (RebP_bad (M := M) hcode.out hcd0.out rfl (hnw.out.next hn2))
            clear hn2 href
            go_wp2
            go_ret2
            exact hfin.out
        · have hino : 0 ≤ D i ∧ D i < N := by unfold outP at hin; omega
          obtain ⟨q, hq⟩ : ∃ q : Nat, D i = (q : Int) := ⟨(D i).toNat, by omega⟩
          have hno2 : Hid (∀ t, t < i + 1 → ¬ outP N D t) := fun t ht => by
            by_cases e : t = i
            · subst e; exact hin
            · exact hno.out t (by omega)
          rw [hq] at hino c0
          have hq2 : (q : Int) < (N : Int) := hino.2
          have hqn : q < N := by omega
          have e0 : (0 : Int) ≤ (q : Int) := by omega
          have e1 : ¬ (N : Int) ≤ (q : Int) := by omega
          have hf := hrow.out.frozen q
          have hc := hrow.out.cell hqn
          have hbv : boV (gn D i) q = .bool (gn D i q) := rfl
          rw [hbv] at hc
          clear hin hino hbv
          cases hg : gn D i q with
          | true =>
            rw [hg] at hc
            have hrow2 : Hid (w1.rowIs w.heap.size 4 N (boV (gn D (i + 1)))) := hrow.out.congr fun k hk => by
              unfold boV gn
              rw [hasD_succ, hq]
              by_cases hkq : k = q
              · subst hkq
                have : hasD D i (k : Int) = true := hg
                rw [this]; rfl
              · rw [decide_eq_false (by omega), Bool.or_false]
            have hdup : Hid (dupD D (i + 1) = true) := by
              show _ = true
              rw [dupD_succ, hq]
              have : hasD D i (q : Int) = true := hg
              rw [this, Bool.or_true]
            clear hg hq
            go_wp2
            go_roundw
            case rel => exact ⟨i + 1, by go_num, by omega, by rw [hdup.out]; rfl, hno2.out, hrow2.out, hnw.out⟩
            case measure => simp [intOf]; omega
          | false =>
            rw [hg] at hc
            have hrow2 : Hid ((w1.setCell ⟨w.heap.size, q, none⟩ (.bool true)).rowIs w.heap.size 4 N (boV (gn D (i + 1)))) := (hrow.out.set q (.bool true)).congr fun k hk => by
              unfold boV gn
              rw [hasD_succ, hq]
              by_cases hkq : k = q
              · subst hkq; simp
              · rw [if_neg hkq, decide_eq_false (by omega), Bool.or_false]
            have hnw2 : Hid (New w (w1.setCell ⟨w.heap.size, q, none⟩ (.bool true))) := hnw.out.set (Nat.le_refl _) _
            have hdup : Hid (cv = if dupD D (i + 1) = true then 7 else 0) := by
              show _ = _
              rw [hcv.out, dupD_succ, hq]
              have : hasD D i (q : Int) = false := hg
              rw [this, Bool.or_false]
            clear hg hq
            go_wp2
            go_roundw
            case rel => exact ⟨i + 1, by go_num, by omega, by rw [← hdup.out], hno2.out, hrow2.out, hnw2.out⟩
            case measure => simp [intOf]; omega
      · have him : i = m := by omega
        subst him
        have hout : Hid (outD N D i = false) := outD_false.2 hno.out
        have hni : ¬ (i : Int) < (i : Int) := by omega
        have hrefC := Lib.hid (fun cd => refused_any N c i d cd A B D R L C M w1 (hM0.out.new hnw.out) (hD0.out.new hnw.out) hN15)
        cases hdu : dupD D i with
        | true =>
          have hc7 : cv = 7 := by rw [hcv.out, hdu]; rfl
          have href := hrefC.out 7
          have hcode : Hid (rbCode N L pn D i = if lOK (gn D i) L N = true then 7 else 4) := by
            show _ = _
            unfold rbCode
            rw [if_neg (fun h => h hrg0.out)]
            cases lOK (gn D i) L N with
            | false => rfl
            | true => rw [if_neg (by simp), if_neg (by rw [hout.out]; simp), if_pos hdu]; rfl
          obtain ⟨cd, hcd⟩ : ∃ cd : Int, Hid (cd = if lOK (gn D i) L N = true then 7 else 4) := ⟨_, rfl⟩
          rw [← hcd.out] at href hcode
          have hcd0 : Hid (cd ≠ 0) := by show cd ≠ 0; rw [hcd.out]; split <;> omega
          have hrefH := Lib.hid href
          subst hc7
          clear hdu href hrefC
          go_wp2_with fail
          refine hrefH.out.mono ?_
          rintro e w2 ⟨rfl, hn2⟩
          have hfin := Lib.hid (RebP_bad (M := M) hcode.out hcd0.out rfl (hnw.out.next hn2))
          clear hn2 hrefH
          go_wp2
          go_ret2
          exact hfin.out
        | false =>
          have hc0 : cv = 0 := by rw [hcv.out, hdu]; rfl
          subst hc0
          have hduH := Lib.hid hdu
          clear hdu
          by_cases hmp : (pn : Int) < (i : Int)
          · have href := hrefC.out 12
            have hcode : Hid (rbCode N L pn D i = if lOK (gn D i) L N = true then 12 else 4) := by
              show _ = _
              unfold rbCode
              rw [if_neg (fun h => h hrg0.out)]
              cases lOK (gn D i) L N with
              | false => rfl
              | true => rw [if_neg (by simp), if_neg (by rw [hout.out]; simp), if_neg (by rw [hduH.out]; simp), if_pos hmp]; rfl
            obtain ⟨cd, hcd⟩ : ∃ cd : Int, Hid (cd = if lOK (gn D i) L N = true then 12 else 4) := ⟨_, rfl⟩
            rw [← hcd.out] at href hcode
            have hcd0 : Hid (cd ≠ 0) := by show cd ≠ 0; rw [hcd.out]; split <;> omega
            have hrefH := Lib.hid href
            clear href hrefC
            go_wp2_with fail
            refine hrefH.out.mono ?_
            rintro e w2 ⟨rfl, hn2⟩
            have hfin := Lib.hid (RebP_bad (M := M) hcode.out hcd0.out rfl (hnw.out.next hn2))
            clear hn2 hrefH
            go_wp2
            go_ret2
            exact hfin.out
          · have hmp2 : i ≤ pn := by omega
            have hleft := Lib.hid (left_any w.heap.size N c N A (gn D i) R L C M w1 (hM0.out.new hnw.out) hrow.out hN15)
            obtain ⟨cn, hcn⟩ : ∃ cn, Hid (cn = (lf (gn D i) N).length) := ⟨_, rfl⟩
            rw [← hcn.out] at hleft
            clear hrefC
            go_wp2_with fail
            refine hleft.out.mono ?_
            rintro e w2 ⟨⟨A', c', rfl, hM2⟩, hn2⟩
            have hM20 := Lib.hid hM2
            have hn20 := Lib.hid hn2
            have hev : Hid (Calls Try.prog 22 #[.slice A' cn c'] w2 fun e w'' => e = .returned (.bool (lOK (gn D i) L N)) ∧ New w2 w'') := by
              have := even_any cn c' A' _ _ _ _ w2 hM20.out
              rw [hcn.out] at this ⊢
              exact this
            clear hM2 hn2 hleft
            cases hok : lOK (gn D i) L N with
            | false =>
              rw [hok] at hev
              have hcode : Hid (rbCode N L pn D i = 4) := by
                show _ = _
                unfold rbCode
                rw [if_neg (fun h => h hrg0.out), if_pos hok]
              clear hok
              go_wp2_with fail
              refine hev.out.mono ?_
              rintro e w3 ⟨rfl, hn3⟩
              have hfin := Lib.hid (RebP_bad (M := M) hcode.out (by decide) rfl ((hnw.out.next hn20.out).next hn3))
              clear hn3 hev
              go_wp2
              go_ret2
              exact hfin.out
            | true =>
              rw [hok] at hev
              have hcode : Hid (rbCode N L pn D i = 0) := by
                show _ = _
                unfold rbCode
                rw [if_neg (fun h => h hrg0.out), if_neg (by rw [hok]; simp), if_neg (by rw [hout.out]; simp), if_neg (by rw [hduH.out]; simp), if_neg (by omega)]
              have hbu := Lib.hid (fun w' (hn : New w1 w') => rebuilt_any w.heap.size N N n pn (lSize (gn D i) L N) c A (gn D i) R L C M w' (hM0.out.new (hnw.out.next hn)) hb0.out (row_new hrow.out hn) hn'.out n1 n12 p1 p3 hok rfl (lf_some (p := pn) (by omega) hmp2) (gn_few hn'.out hmp2))
              clear hok
              go_wp2_with fail
              refine hev.out.mono ?_
              rintro e w3 ⟨rfl, hn3⟩
              have hn30 := Lib.hid (hn20.out.next hn3)
              clear hn3 hev
              go_wp2_with fail
              refine (hbu.out _ hn30.out).mono ?_
              rintro e w4 ⟨o, Ad, Cp, rfl, hR4, hn4⟩
              have hfin : Hid (RebP N L pn D i M w (.returned (.tuple #[.slice (some ⟨o, 0, none⟩) N N, .int .i64 0])) w4) := by
                show RebP _ _ _ _ _ _ _ _ _
                unfold RebP
                rw [hcode.out, if_pos rfl]
                have h1 : N - ((pn : Int)).toNat = n := by have := hn'.out; simp; omega
                have h2 : ((pn : Int)).toNat = pn := by simp
                rw [h1, h2]
                exact ⟨_, _, Ad, Cp, rfl, hR4, (hnw.out.next hn30.out).next hn4⟩
              clear hR4 hn4 hbu
              go_wp2
              go_ret2
              exact hfin.out
  · refine (Rebuild_range N c m d p A B w hM.1 hp1 hp2 hrg).mono ?_
    rintro e w' ⟨he, rfl⟩
    exact RebP_bad (by unfold rbCode; rw [if_pos hrg]) (by decide) he (New.refl w)
end Go.Proofs.Ytjmjnodaohbpfaa.par
