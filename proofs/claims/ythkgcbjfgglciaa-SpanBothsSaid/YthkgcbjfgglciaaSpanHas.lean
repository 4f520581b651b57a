/-
  Contracts: is a number in a list of ranges? (sort.Search)
-/
import Derived.Test.YthkgcbjfgglciaaSpanRead
import Derived.Test.YthkgcbjfgglciaaBits
namespace Go.Proofs.Ythkgcbjfgglciaa.span
open Go.ChangeShapes Go.WideShapes Go.ChangeAt Go.RowKit Go.Proofs.Ythkgcbjfgglciaa.kit
set_option linter.unusedVariables false

theorem enter_of {P : Program} {f : FuncId} {fn : Func} {c : Code} (hf : P.funcs[f]? = some fn) (hname : (fn.name == "runtime.NumGoroutine") = false) (hb : fn.body = some c) :
    ∀ (args : Array Value) (w : World), (callFunc f args).run P w = .ok (.enter f args) w := by
  intro args w
  have h1 : fn.name ≠ "runtime.NumGoroutine" := by simpa using hname
  simp [callFunc, hf, h1, hb]
/-- where a search ends -/
def EndP (p : Nat → Bool) (n s : Nat) : Prop := s ≤ n ∧ (0 < s → p (s - 1) = false) ∧ (s < n → p s = true)
theorem Search_any (n : Nat) (hn : n ≤ 1000) (k : Nat) (eg : ∀ args w, (callFunc k args).run Try.prog w = .ok (.enter k args) w) (caps : Array Value) (p : Nat → Bool) (w : World)
    (hF : ∀ i w1, i < n → New w w1 → Calls Try.prog k (#[.int .i64 (i : Int)] ++ caps) w1 fun e w' => e = .returned (.bool (p i)) ∧ New w1 w') :
    Calls Try.prog 38 #[.int .i64 n, .func (.func k) #[] caps] w fun e w' => (∃ s : Nat, e = .returned (.int .i64 s) ∧ EndP p n s) ∧ New w w' := by
  have hF1 := Lib.hid hF
  clear hF
  go_enter Try.func38, Try.ntmps38
  go_wp2
  go_loopw [5, 6] (fun a b wr => ∃ i j : Nat, a = .int .i64 i ∧ b = .int .i64 j ∧ i ≤ j ∧ j ≤ n ∧ Hid ((0 < i → p (i - 1) = false) ∧ (j < n → p j = true)) ∧ New w wr) (fun a b _ => (intOf b).toNat - (intOf a).toNat)
  case atStart => exact ⟨0, n, rfl, rfl, by omega, by omega, ⟨fun h => absurd h (Nat.not_lt_zero _), fun h => absurd h (Nat.lt_irrefl _)⟩, New.refl _⟩
  case round =>
    obtain ⟨i, j, rfl, rfl, hij, hjn, hp, hnw⟩ := hrel
    by_cases hlt : i < j
    · obtain ⟨h, hh⟩ : ∃ h, Hid (h = (i + j) / 2) := ⟨_, (rfl : _ = _)⟩
      have h1 : i ≤ h := by rw [hh.out]; omega
      have h2 : h < j := by rw [hh.out]; omega
      have e1 : ((i : Int) + (j : Int)) / 2 = (h : Int) := by rw [hh.out]; push_cast; rfl
      go_wp2_with fail
      obtain ⟨b, hb⟩ : ∃ b, Hid (b = p h) := ⟨_, (rfl : _ = _)⟩
      refine (hF1.out h _ (by omega) hnw).mono ?_
      rw [← hb.out]
      rintro e w1 ⟨rfl, hn1⟩
      have hp1 := hp.out.1
      have hp2 := hp.out.2
      cases b with
      | false =>
        have hpn : Hid ((0 < h + 1 → p (h + 1 - 1) = false) ∧ (j < n → p j = true)) := ⟨fun _ => hb.out.symm, hp2⟩
        clear hp1 hp2
        go_wp2
        go_roundw
        case rel => exact ⟨h + 1, j, by go_num, rfl, by omega, hjn, hpn, hnw.next hn1⟩
        case measure => simp [intOf]; omega
      | true =>
        have hpn : Hid ((0 < i → p (i - 1) = false) ∧ (h < n → p h = true)) := ⟨hp1, fun _ => hb.out.symm⟩
        clear hp1 hp2
        go_wp2
        go_roundw
        case rel => exact ⟨i, h, rfl, rfl, h1, by omega, hpn, hnw.next hn1⟩
        case measure => simp [intOf]; omega
    · have hin : i = j := by omega
      subst hin
      go_wp2
      go_ret
      exact ⟨⟨i, rfl, hjn, hp.out⟩, hnw⟩
theorem Has1_any (i n c : Nat) (A : Option Addr) (F T : Nat → Int) (m : Int) (b1 b2 : Nat) (w : World) (h1 : w.cell? ⟨b1, 0, none⟩ = some (.slice A n c)) (h2 : w.cell? ⟨b2, 0, none⟩ = some (.int .i64 m)) (h : Rd w A n F T) (hi : i < n) :
    Calls Try.prog 39 #[.int .i64 i, .pointer (some ⟨b1, 0, none⟩), .pointer (some ⟨b2, 0, none⟩)] w fun e w' => e = .returned (.bool (decide (m < T i))) ∧ New w w' := by
  have hm := h.1
  unfold maxLen at hm
  obtain ⟨b, off, rfl, hb, hcs⟩ := h.2 (by omega)
  obtain ⟨c0, c1⟩ := hcs i hi
  clear hcs h
  have i0 : (0 : Int) ≤ (i : Int) := by omega
  have i1 : (i : Int) < (n : Int) := by omega
  go_enter Try.func39, Try.ntmps39
  go_wp2
  go_quiet (fail)
  go_wp2
  go_ret
  exact ⟨rfl, New.of_drewN _ _⟩
set_option maxRecDepth 100000 in
theorem enterHas1 : ∀ (args : Array Value) (w : World), (callFunc 39 args).run Try.prog w = .ok (.enter 39 args) w := enter_of (fn := Try.f39) (by rfl) (by kernel_rfl) (by rfl)
def inB (F T : Nat → Int) (m : Int) (j : Nat) : Bool := decide (F j ≤ m) && decide (m < T j)
def hasB (n : Nat) (F T : Nat → Int) (m : Int) : Bool := mayB n F T && (List.range n).any fun j => inB F T m j
theorem hasB_true {n j : Nat} {F T : Nat → Int} {m : Int} (hm : mayB n F T = true) (hj : j < n) (h : inB F T m j = true) : hasB n F T m = true := by
  simp only [hasB, hm, Bool.true_and, List.any_eq_true, List.mem_range]
  exact ⟨j, hj, h⟩
theorem hasB_false {n : Nat} {F T : Nat → Int} {m : Int} (hm : mayB n F T = true) (h : ∀ j, j < n → inB F T m j = false) : hasB n F T m = false := by
  cases hb : hasB n F T m with
  | false => rfl
  | true =>
    simp only [hasB, hm, Bool.true_and, List.any_eq_true, List.mem_range] at hb
    obtain ⟨j, hj, hi⟩ := hb
    rw [h j hj] at hi
    cases hi
theorem steps {n : Nat} {F T : Nat → Int} (hs : ∀ j, j < n → stepP F T j) : ∀ (d i : Nat), i + d < n → T i ≤ T (i + d) ∧ (0 < d → T i < F (i + d))
  | 0, i, _ => ⟨Int.le_refl _, fun h => absurd h (Nat.lt_irrefl 0)⟩
  | d + 1, i, h => by
    have ih := steps hs d i (by omega)
    obtain ⟨h1, h2⟩ := hs (i + d + 1) (by omega)
    have h3 : T (i + d) < F (i + d + 1) := by rcases h2 with h2 | h2; omega; exact h2
    have h4 := h1.2.1
    rw [show i + (d + 1) = i + d + 1 by omega]
    exact ⟨by omega, fun _ => by omega⟩
theorem has_search {n s : Nat} {F T : Nat → Int} {m : Int} (hm : mayB n F T = true) (h : EndP (fun j => decide (m < T j)) n s) : hasB n F T m = (decide (s < n) && decide (F s ≤ m)) := by
  obtain ⟨hn, hs⟩ := mayB_out hm
  obtain ⟨h1, h2, h3⟩ := h
  simp only [decide_eq_false_iff_not, decide_eq_true_eq] at h2 h3
  by_cases hsn : s < n
  · have h3' := h3 hsn
    by_cases hf : F s ≤ m
    · rw [decide_eq_true hsn, decide_eq_true hf]
      exact hasB_true hm hsn (by simp [inB, hf, h3'])
    · rw [decide_eq_false hf, Bool.and_false]
      refine hasB_false hm fun j hj => ?_
      have hno : ¬ (F j ≤ m ∧ m < T j) := by
        rintro ⟨g1, g2⟩
        rcases Nat.lt_trichotomy j s with hlt | rfl | hgt
        · have := (steps hs (s - 1 - j) j (by omega)).1
          rw [show j + (s - 1 - j) = s - 1 by omega] at this
          have := h2 (by omega)
          omega
        · exact hf g1
        · have := (steps hs (j - s) s (by omega)).2 (by omega)
          rw [show s + (j - s) = j by omega] at this
          omega
      simp [inB]; intro g1; have := fun g2 => hno ⟨g1, g2⟩; omega
  · rw [decide_eq_false hsn, Bool.false_and]
    refine hasB_false hm fun j hj => ?_
    have := (steps hs (s - 1 - j) j (by omega)).1
    rw [show j + (s - 1 - j) = s - 1 by omega] at this
    have := h2 (by omega)
    simp [inB]; intro; omega
theorem Has_any (A : Option Addr) (n c : Nat) (F T : Nat → Int) (m : Int) (w : World) (h : Rd w A n F T) :
    Calls Try.prog 19 #[.slice A n c, .int .i64 m] w fun e w' => e = .returned (.bool (hasB n F T m)) ∧ New w w' := by
  have hN0 : New w ((w.alloc (.cells #[.slice A n c] 22)).alloc (.cells #[.int .i64 m] 3)) := ((New.refl w).alloc _).alloc _
  have h0 := Lib.hid h
  have hmx := h.1
  unfold maxLen at hmx
  clear h
  cases hm : mayB n F T with
  | false =>
    have hr : hasB n F T m = false := by simp [hasB, hm]
    rw [hr]
    clear hr
    go_enter Try.func19, Try.ntmps19
    go_wp2_with fail
    refine (May_any _ _ _ _ _ _ (h0.out.new hN0)).mono ?_
    rw [hm]
    rintro e w1 ⟨rfl, hn1⟩
    go_wp2
    go_ret
    exact ⟨rfl, hN0.next hn1⟩
  | true =>
    obtain ⟨hb, hHb⟩ : ∃ hb, Hid (hb = hasB n F T m) := ⟨_, (rfl : _ = _)⟩
    have hn200 := (mayB_out hm).1
    have hm1 := Lib.hid hm
    rw [← hHb.out]
    have hbx1 : Blk ((w.alloc (.cells #[.slice A n c] 22)).alloc (.cells #[.int .i64 m] 3)) w.heap.size 22 #[.slice A n c] := (Blk.fresh _ _ _).alloc _
    have hbx2 : Blk ((w.alloc (.cells #[.slice A n c] 22)).alloc (.cells #[.int .i64 m] 3)) (w.heap.size + 1) 3 #[.int .i64 m] := by
      have := Blk.fresh (w.alloc (.cells #[.slice A n c] 22)) 3 #[.int .i64 m]
      simpa using this
    go_enter Try.func19, Try.ntmps19
    go_wp2_with fail
    refine (May_any _ _ _ _ _ _ (h0.out.new hN0)).mono ?_
    rw [hm1.out]
    rintro e w1 ⟨rfl, hn1⟩
    have hN1 := hN0.next hn1
    have k1 := hbx1.new hn1
    have k2 := hbx2.new hn1
    have c0 := k1.cell 0
    have c1 := k2.cell 0
    simp at c0 c1
    clear hm
    go_wp2_with fail
    refine (Search_any n (by omega) 39 enterHas1 #[.pointer (some ⟨w.heap.size, 0, none⟩), .pointer (some ⟨w.heap.size + 1, 0, none⟩)] (fun j => decide (m < T j)) _ (fun i w2 hi hn2 => ?hF)).mono ?_
    case hF =>
      exact Has1_any i n c A F T m _ _ w2 (by rw [(k1.new hn2).cell 0]; rfl) (by rw [(k2.new hn2).cell 0]; rfl) (h0.out.new (hN1.next hn2)) hi
    rintro e w2 ⟨⟨s, rfl, hend⟩, hn2⟩
    have hres : Hid (hb = (decide (s < n) && decide (F s ≤ m))) := by rw [hHb.out]; exact has_search hm1.out hend
    have hsn := hend.1
    clear hend
    have c0 := (k1.new hn2).cell 0
    have c1 := (k2.new hn2).cell 0
    simp at c0 c1
    have hN2 := Lib.hid (hN1.next hn2)
    by_cases hlt : (s : Int) < (n : Int)
    · obtain ⟨b, off, rfl, hbb, hcs⟩ := h0.out.2 (by omega)
      have d0 := (hN2.out.cell (p := ⟨b, off + s * 2, none⟩) hbb).trans (hcs s (by omega)).1
      have i0 : (0 : Int) ≤ (s : Int) := by omega
      obtain ⟨x, hx⟩ : ∃ x, Hid (x = F s) := ⟨_, (rfl : _ = _)⟩
      rw [← hx.out] at d0
      have hr2 : Hid (hb = decide (x ≤ m)) := by rw [hres.out, hx.out, decide_eq_true (show s < n by omega), Bool.true_and]; exact (rfl : _ = _)
      clear hcs
      go_wp2
      go_quiet (fail)
      go_wp2
      go_ret
      exact ⟨retb (by rw [hr2.out]), hN2.out.drewN _⟩
    · have hr2 : Hid (hb = false) := by rw [hres.out, decide_eq_false (show ¬ s < n by omega), Bool.false_and]; exact (rfl : _ = _)
      have hsn2 : s = n := by omega
      clear hlt
      subst hsn2
      have hdf : decide ((s : Int) < (s : Int)) = false := decide_eq_false (Int.lt_irrefl _)
      go_wp2
      go_quiet (fail)
      go_wp2
      go_ret
      exact ⟨retb (by rw [hr2.out]), hN2.out.drewN _⟩
theorem SpanHas_any (A : Option Addr) (n c : Nat) (F T : Nat → Int) (m : Int) (w : World) (h : Rd w A n F T) :
    Calls Try.prog 20 #[.slice A n c, .int .i64 m] w fun e w' => e = .returned (.bool (hasB n F T m)) ∧ New w w' := by
  have h0 := Lib.hid h
  have hmx := h.1
  unfold maxLen at hmx
  clear h
  cases hm : mayB n F T with
  | false =>
    have hr : hasB n F T m = false := by simp [hasB, hm]
    rw [hr]
    clear hr
    go_enter Try.func20, Try.ntmps20
    go_wp2_with fail
    refine (SpanMay_any _ _ _ _ _ _ h0.out).mono ?_
    rw [hm]
    rintro e w1 ⟨rfl, hn1⟩
    go_wp2
    go_ret
    exact ⟨rfl, hn1⟩
  | true =>
    obtain ⟨hb, hHb⟩ : ∃ hb, Hid (hb = hasB n F T m) := ⟨_, (rfl : _ = _)⟩
    have hm1 := Lib.hid hm
    rw [← hHb.out]
    clear hm
    go_enter Try.func20, Try.ntmps20
    go_wp2_with fail
    refine (SpanMay_any _ _ _ _ _ _ h0.out).mono ?_
    rw [hm1.out]
    rintro e w1 ⟨rfl, hn1⟩
    go_wp2
    go_loopw [12] (fun k wr => ∃ i : Nat, k = .int .i64 i ∧ i ≤ n ∧ New w wr ∧ Hid (∀ j, j < i → inB F T m j = false)) (fun k _ => n - (intOf k).toNat)
    case atStart => exact ⟨0, rfl, by omega, hn1, fun j hj => absurd hj (Nat.not_lt_zero j)⟩
    case round =>
      obtain ⟨i, rfl, hi, hnw, hup⟩ := hrel
      by_cases hlt : i < n
      · obtain ⟨b, off, rfl, hbb, hcs⟩ := h0.out.2 (by omega)
        have d0 := (hnw.cell (p := ⟨b, off + i * 2, none⟩) hbb).trans (hcs i hlt).1
        have d1 := (hnw.cell (p := ⟨b, off + i * 2 + 1, none⟩) hbb).trans (hcs i hlt).2
        obtain ⟨x, hx⟩ : ∃ x, Hid (x = F i) := ⟨_, (rfl : _ = _)⟩
        obtain ⟨y, hy⟩ : ∃ y, Hid (y = T i) := ⟨_, (rfl : _ = _)⟩
        rw [← hx.out] at d0
        rw [← hy.out] at d1
        clear hcs
        by_cases hin : x ≤ m ∧ m < y
        · have ht : Hid (hb = true) := by rw [hHb.out]; exact hasB_true hm1.out hlt (by rw [hx.out, hy.out] at hin; simp [inB, hin.1, hin.2])
          obtain ⟨g1, g2⟩ := hin
          go_wp2
          all_goals go_ret
          all_goals exact ⟨retb (by rw [ht.out]), hnw.alloc _⟩
        · have hs : Hid (∀ j, j < i + 1 → inB F T m j = false) := fun j hj => by
            by_cases hji : j = i
            · subst hji
              rw [hx.out, hy.out] at hin
              simp [inB]; intro g1; have := fun g2 => hin ⟨g1, g2⟩; omega
            · exact hup.out j (by omega)
          by_cases g1 : x ≤ m
          · have g2 : ¬ m < y := fun g2 => hin ⟨g1, g2⟩
            clear hin
            go_wp2
            go_roundw
            case rel => exact ⟨i + 1, by go_num, by omega, hnw.alloc _, hs⟩
            case measure => simp [intOf]; omega
          · clear hin
            go_wp2
            go_roundw
            case rel => exact ⟨i + 1, by go_num, by omega, hnw.alloc _, hs⟩
            case measure => simp [intOf]; omega
      · have hin : i = n := by omega
        subst hin
        have hf : Hid (hb = false) := by rw [hHb.out]; exact hasB_false hm1.out hup.out
        go_wp2
        go_ret
        exact ⟨retb (by rw [hf.out]), hnw⟩
end Go.Proofs.Ythkgcbjfgglciaa.span
