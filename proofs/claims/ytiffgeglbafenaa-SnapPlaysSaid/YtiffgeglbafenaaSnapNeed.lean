/-
  Contracts of the reference's needed and all.
-/
import Derived.Test.YtiffgeglbafenaaSnapMap
namespace Go.Proofs.Ytiffgeglbafenaa.snap
open Go.ChangeShapes Go.WideShapes Go.ChangeAt Go.RowKit Go.Proofs.Ytiffgeglbafenaa.kit Go.Deep Go.Maps
set_option linter.unusedVariables false
set_option maxRecDepth 100000
theorem wpList_next_iv {P : Program} (w : World) {ops : Array Oper} {rest : List Oper} {o : Oper} {a : Act} {Q : Exit → Act → World → Prop} (hg : o.guard = none) (it : Operand) (hop : o.op = Op.next it false) (k : TypeId) (K : Keyed P k) (hk : P.underlying k = some (.int .i64)) (b r n : Nat) (D : DataW Value) (left : Lit → Bool) (cnt : Nat)
    (hit : a.eval it = .pointer (some ⟨r, 0, none⟩)) (h : w.ranges P k tokR b r n D left cnt)
    (hDone : (∀ kl, left kl = false) → wpList P ops Q rest (a.put o.dst (.tuple #[.bool false])) w)
    (hMore : ∀ (x : Int) (c : Value) (w' : World) (cnt' : Nat), (∀ zd, D.atKey (.int .i64 x) zd = .held c) → w'.ranges P k tokR b r n D (fun z => left z && !z.sameKey (.int .i64 x)) cnt' → cnt' < cnt →
      w.grownBy w' (some r) → w'.heap.size = w.heap.size → (Instr.entry (.pointer (some ⟨r, 0, none⟩))).run P w' = .ok (.tuple #[.int .i64 x, c]) w' → wpList P ops Q rest (a.put o.dst (.tuple #[.bool true, .int .i64 x, c])) w') :
    wpList P ops Q (o :: rest) a w :=
  wpList_next_ranges w hg it hop k K tokR (Value.int .i64) (fun v : Value => v) (fun key kl hkey => by obtain ⟨x, rfl, _⟩ := keyOf_int_inv hk hkey; exact ⟨x, rfl⟩) (fun v y hv => ⟨v, rfl⟩) b r n D left cnt hit h (fun _ hl => hDone hl)
    (fun x c kl y w' cnt' hkey hlk hv hat hrg hlt hgr hsz hen => by
      obtain ⟨x', ex, rfl, hwx⟩ := keyOf_int_inv hk hkey
      cases ex
      cases hv
      exact hMore x c w' cnt' hat hrg hlt hgr hsz hen)
theorem needed_any (base nb mb c b : Nat) (s : KS) (lv : Value) (mv : Nat → Value) (w : World) (hI : Inv s) (h : Nd base nb mb c s lv mv w) (hb : b < s.n) :
    Calls Try.prog 20 #[ptr nb, .int .i64 (b : Nat)] w fun e w' => e = .returned (.bool (needed s b)) ∧ New w w' := by
  have k0 := h.bk.cell 0
  have k1 := h.bk.cell 1
  simp at k0 k1
  obtain ⟨A, cc, rfl, hnc, hcm, hA, hcell⟩ := own_open h.lo
  obtain ⟨g, rfl, _, hg⟩ := hA (by omega)
  have e0 := hcell g rfl b _ (boolL_at s.lives hb)
  have hbn : (b : Int) < (s.n : Int) := by omega
  have hn200 := hI.n200
  obtain ⟨D, hown, hsz, hhas, hat⟩ := h.mp
  have hH := Lib.hid h
  have hIH := Lib.hid hI
  clear h hI hcell hA
  by_cases hl : s.lives b = true
  · have hnd : Hid (needed s b = true) := by show _ = true; simp [needed, hl]
    rw [hl] at e0
    clear hl
    go_enter Try.func20, Try.ntmps20
    go_wp2
    exact bodyPost_ret (v := .bool true) (by simp [results, Try.results20, go_sem]) rfl ⟨by rw [hnd.out], New.refl _⟩
  · have hlf : s.lives b = false := by simpa using hl
    rw [hlf] at e0
    have hlH := Lib.hid hlf
    have hinj : Hid (∀ j k, j < s.m → k < s.m → s.num j = s.num k → j = k) := fun j k hj hk e => by
      rcases Nat.lt_trichotomy j k with h1 | h1 | h1
      · have := hIH.out.nd j k h1 hk
        omega
      · exact h1
      · have := hIH.out.nd k j h1 hj
        omega
    have hatH := Lib.hid hat
    have hhasH := Lib.hid hhas
    have hownH := Lib.hid hown
    clear hl hlf hat hhas hown
    go_enter Try.func20, Try.ntmps20
    go_wp2_with (first
      | (at_range; refine wpList_range_own _ rfl _ 57 rfl 3 33 keyed Try.underlying57 tokR mb c D rfl hownH.out ?_; intro w0 hrg0 hg0 hs0)
      | go_in)
    go_frame
    go_loopw [6] (fun _ wr => ∃ (left : Lit → Bool) (cnt : Nat), Hid (wr.ranges Try.prog 3 tokR mb w.heap.size c D left cnt) ∧ Hid (∀ j, j < s.m → left (.int .i64 (s.num j : Int)) = false → (s.lst j).contains b = false) ∧ Hid (New w wr)) (fun _ wr => wr.rangeLeft mb w.heap.size)
    case atStart => exact ⟨_, _, Lib.hid hrg0, Lib.hid (fun j hj hh => by rw [(hhasH.out _).2 ⟨j, hj, rfl⟩] at hh; cases hh), Lib.hid (New.of_grown hg0)⟩
    case round =>
      obtain ⟨left, cnt, hrg, hno, hN⟩ := hrel
      go_wp2_with (first
        | (at_next; refine wpList_next_iv _ rfl _ rfl 3 keyed Try.underlying3 mb w.heap.size c D left cnt rfl hrg.out ?_ ?_)
        | go_in)
      · intro hl0
        have hnd : Hid (needed s b = false) := by
          show _ = false
          unfold needed
          rw [hlH.out, Bool.false_or, List.any_eq_false]
          intro i hi
          have hi := List.mem_range.1 hi
          rw [hno.out i hi (hl0 _)]
          simp
        go_wp2
        exact bodyPost_ret (v := .bool false) (by simp [results, Try.results20, go_sem]) rfl ⟨by rw [hnd.out], hN.out⟩
      · intro x v w1 cnt1 hatx hrg1 hlt hg1 hs1 hen
        obtain ⟨j, hj, hjx⟩ := (hhasH.out (x)).1 (has_true_of_atKey hatx)
        have hvj : v = mv j := by
          have h1 := hatx (.held v)
          rw [← hjx, hatH.out j hj] at h1
          injection h1 with h1
          exact h1.symm
        subst hvj
        have hN1 : Hid (New w w1) := hN.out.grown1 hg1 (Nat.le_refl _)
        have hcall := Lib.hid (hasInt_any (s.lst j) (mv j) base b w1 (own_new (hH.out.ll j hj) hN1.out))
        have hcntH := Lib.hid hlt
        have hrgH := Lib.hid hrg1
        have hjH := Lib.hid hjx
        clear hatx hrg1 hlt hg1 hs1 hjx
        by_cases hc : (s.lst j).contains b = true
        · rw [hc] at hcall
          have hnd : Hid (needed s b = true) := by
            show _ = true
            unfold needed
            rw [Bool.or_eq_true, List.any_eq_true]
            exact .inr ⟨j, List.mem_range.2 hj, hc⟩
          clear hc
          go_wp2_with (go_at_call 32; refine hcall.out.mono ?_; rintro e w2 ⟨rfl, rfl⟩)
          exact bodyPost_ret (v := .bool true) (by simp [results, Try.results20, go_sem]) rfl ⟨by rw [hnd.out], hN1.out⟩
        · have hcf : (s.lst j).contains b = false := by simpa using hc
          rw [hcf] at hcall
          have hcfH := Lib.hid hcf
          clear hc hcf
          go_wp2_with (go_at_call 32; refine hcall.out.mono ?_; rintro e w2 ⟨rfl, rfl⟩)
          go_roundw
          case rel =>
            refine ⟨_, cnt1, hrgH, Lib.hid (fun i hi hh => ?_), hN1⟩
            by_cases e : (s.num i : Int) = x
            · have : i = j := hinj.out i j hi hj (by have := hjH.out; omega)
              subst this
              exact hcfH.out
            · rw [sameKey_ne (lit_ne e)] at hh
              exact hno.out i hi (by simpa using hh)
          case measure => rw [hrgH.out.left_eq, hrg.out.left_eq]; exact hcntH.out
theorem infoBool : (Try.prog.info? 4).map (fun i => (i.zero, i.size, i.bytes)) = some (some (.bool false), 1, 1) := by kernel_rfl
/-- who is needed, of all -/
theorem all_any (base nb mb c : Nat) (s : KS) (lv : Value) (mv : Nat → Value) (w : World) (hI : Inv s) (h : Nd base nb mb c s lv mv w) :
    Calls Try.prog 14 #[ptr nb] w fun e w' => ∃ g, e = .returned (.slice (some ⟨g, 0, none⟩) s.n s.n) ∧ w'.rowIs g 4 s.n (fun i => .bool (needed s i)) ∧ w.heap.size ≤ g ∧ New w w' := by
  have k0 := h.bk.cell 0
  simp at k0
  obtain ⟨A, cc, rfl, hnc, hcm, hA, hcell⟩ := own_open h.lo
  have hn200 := hI.n200
  have hH := Lib.hid h
  have hIH := Lib.hid hI
  have hmk := run_make_row' (P := Try.prog) 58 4 (.bool false) 1 Try.underlying58 infoBool rfl .i64 .i64 s.n (by omega) (by omega)
  obtain ⟨n, hn⟩ : ∃ n, Hid (n = s.n) := ⟨_, rfl⟩
  rw [← hn.out]
  rw [← hn.out] at k0 hnc hn200 hmk
  clear hcell hA h hI
  go_enter Try.func14, Try.ntmps14
  go_wp2_with fail
  go_loopw [13] (fun x wr => ∃ i, x = .int .i64 (i : Nat) ∧ i ≤ n ∧ Hid (wr.rowIs w.heap.size 4 n (fun j => .bool (decide (j < i) && needed s j))) ∧ Hid (New w wr)) (fun x _ => n - (intOf x).toNat)
  case atStart =>
    refine ⟨0, rfl, Nat.zero_le _, ?_, ?_⟩
    · exact (World.rowIs_made w (.bool false) n 4).congr fun j hj => by simp
    · exact (New.refl w).alloc _
  case round =>
    obtain ⟨i, rfl, hi, hR, hN⟩ := hrel
    by_cases hlt : i < n
    · have hil : (i : Int) < (n : Int) := by omega
      have hcall := Lib.hid (fun (w' : World) (hn' : New wr w') => needed_any base nb mb c i s _ mv w' hIH.out (hH.out.new (hN.out.next hn')) (by have := hn.out; omega))
      have hb0 := hR.out.lt
      go_wp2_with (first
        | (go_at_call 20; refine (hcall.out _ (New.refl _)).mono ?_; rintro e w2 ⟨rfl, hn2⟩
           have hR2 := row_new hR.out hn2
           have t2 := hR2.cell hlt
           have t3 := hR2.frozen i
           have hn2H := Lib.hid hn2
           have hR2H := Lib.hid hR2
           clear hn2 hR2
           simp at t2))
      go_roundw
      case rel =>
        refine ⟨i + 1, by go_num, by omega, ?_, ?_⟩
        · exact (hR2H.out.set i _).congr fun j hj => by
            by_cases e : j = i
            · subst e
              simp
            · simp only [if_neg e]
              have : decide (j < i + 1) = decide (j < i) := by
                rw [Bool.eq_iff_iff]
                simp
                omega
              rw [this]
        · exact (hN.out.next hn2H.out).set (Nat.le_refl _) _
      case measure => simp [intOf]; omega
    · have him : n = i := by omega
      subst him
      go_wp2
      exact bodyPost_ret (v := .slice (some ⟨w.heap.size, 0, none⟩) n n) (by simp [results, Try.results14, go_sem]) rfl ⟨w.heap.size, rfl, hR.out.congr fun j hj => by simp [hj], Nat.le_refl _, hN.out⟩
end Go.Proofs.Ytiffgeglbafenaa.snap
