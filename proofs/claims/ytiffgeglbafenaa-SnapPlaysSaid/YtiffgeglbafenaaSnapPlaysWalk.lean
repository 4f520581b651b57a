/-
  The walk of the law SnapPlays.
-/
import Derived.Test.YtiffgeglbafenaaRows
import Derived.Test.YtiffgeglbafenaaSnapSame
namespace Go.Proofs.Ytiffgeglbafenaa.snapPlays
open Go.ChangeShapes Go.WideShapes Go.ChangeAt Go.RowKit Go.Proofs.Ytiffgeglbafenaa.kit Go.Proofs.Ytiffgeglbafenaa.snap
set_option linter.unusedVariables false
set_option maxRecDepth 100000
theorem core_of (cd : Int) (C : Nat → Int) (G : Nat → List Nat) (m n c : Nat) (hm : m ≤ 300) (A : Option Addr) (K V : Nat → Int) (w : World) (hJ : RdV w A n K V) (hA : A = none → n = 0 ∧ c = 0) (hn : n * 16 ≤ 140737488355328)
    (h1 : ∀ A1 c1 w', RdV w' A1 n K V → Calls Try.prog 8 #[.slice A1 n c1] w' (PlG C G m cd w')) (h2 : ∀ w', New w w' → Calls Try.prog 9 #[.slice A n c] w' (PlG C G m cd w')) :
    Calls Try.prog 4 #[.slice A n c] w fun e w' => e = .returned (.bool true) ∧ New w w' := by
  have g1 := Lib.hid h1
  have g2 := Lib.hid h2
  obtain ⟨A1, c1, w0, hcp, hJ0, hn0⟩ := copy_moves A n c K V w 29 hJ hA hn
  have hJ0 := Lib.hid hJ0
  have hn0H := Lib.hid hn0
  clear h1 h2 hJ hn hn0 hA
  go_enter Try.func4, Try.ntmps4
  go_wp2_with (at_builtin; refine wpList_append_run rfl _ _ 29 rfl _ _ rfl rfl hcp ?_)
  refine (g1.out A1 c1 w0 hJ0.out).mono ?_
  rintro e w1 ⟨⟨v1, dv1, rfl, ho1, hd1⟩, hn1⟩
  have hn1H := Lib.hid (hn0H.out.next hn1)
  have ho1' := Lib.hid ho1
  have hd1' := Lib.hid hd1
  clear ho1 hd1 hn1
  go_wp2_with fail
  refine (g2.out _ hn1H.out).mono ?_
  rintro e w2 ⟨⟨v3, dv2, rfl, ho2, hd2⟩, hn2⟩
  have ho1x := own_new ho1'.out hn2
  have hd1x : Hid (∀ j, j < m → OwnI w2 w0.heap.size (dv1 j) (G j)) := fun j hj => own_new (hd1'.out j hj) hn2
  have hd2' := Lib.hid hd2
  have hn2H := Lib.hid (hn1H.out.next hn2)
  obtain ⟨B, cb, rfl, _, _, hB, hcell⟩ := own_open ho1x
  obtain ⟨B', cb', rfl, _, _, hB', hcell'⟩ := own_open ho2
  have hcl := Lib.hid hcell
  have hcl' := Lib.hid hcell'
  have hBH := Lib.hid hB
  have hBH' := Lib.hid hB'
  clear hcell hcell' hB hB' ho2 hd2 hn2 ho1x
  go_wp2
  go_loopw [7] (fun k wr => ∃ i : Nat, k = .int .i64 i ∧ i ≤ m ∧ New w2 wr) (fun k _ => m - (intOf k).toNat)
  case atStart => exact ⟨0, rfl, by omega, New.refl w2⟩
  case round =>
    obtain ⟨i, rfl, hi, hnw⟩ := hrel
    by_cases hlt : i < m
    · obtain ⟨g, rfl, _, hg⟩ := hBH.out (by omega)
      obtain ⟨g', rfl, _, hg'⟩ := hBH'.out (by omega)
      obtain ⟨q0, q1⟩ := pairL_at (fun i => .int .i64 (C i)) dv1 m i hlt
      obtain ⟨q0', q1'⟩ := pairL_at (fun i => .int .i64 (C i)) dv2 m i hlt
      obtain ⟨X, xc, hx, hX⟩ := own_rd (hd1x.out i hlt)
      obtain ⟨Y, yc, hy, hY⟩ := own_rd (hd2'.out i hlt)
      rw [hx] at q1
      rw [hy] at q1'
      obtain ⟨x0, hx0⟩ : ∃ x0, Hid (x0 = C i) := ⟨_, rfl⟩
      rw [← hx0.out] at q0 q0'
      generalize (fun k => ((G i).getD k 0 : Int)) = F at hX hY
      generalize (G i).length = ln at hX hY q1 q1'
      have c0 := (hnw.cell (p := ⟨g, i * 2, none⟩) hg).trans (hcl.out g rfl (i * 2) _ q0)
      have c1 := (hnw.cell (p := ⟨g, i * 2 + 1, none⟩) hg).trans (hcl.out g rfl (i * 2 + 1) _ q1)
      have d0 := (hnw.cell (p := ⟨g', i * 2, none⟩) hg').trans (hcl'.out g' rfl (i * 2) _ q0')
      have d1 := (hnw.cell (p := ⟨g', i * 2 + 1, none⟩) hg').trans (hcl'.out g' rfl (i * 2 + 1) _ q1')
      have r0 := Lib.hid (hX.new hnw)
      have r1 := Lib.hid (hY.new hnw)
      have hnw1 := Lib.hid hnw
      clear hX hY q0 q0' q1 q1' hx hy hnw
      have k0 := NewW.keep c0
      have k1 := NewW.keep c1
      have k2 := NewW.keep d0
      have k3 := NewW.keep d1
      have hs : Hid (∀ w', New wr w' → Calls Try.prog 10 #[.slice X ln xc, .slice Y ln yc] w' fun e w'' => e = .returned (.bool true) ∧ New w' w'') := fun w' hn => sameInts_eq _ _ _ _ _ _ _ (r0.out.new hn) (r1.out.new hn)
      have a1 : (i : Int) < (m : Int) := by omega
      have a3 : (0 : Int) ≤ (i : Int) := by omega
      go_wp2
      (refine wp_region_quiet_new (by kernel_rfl) (by kernel_rfl) ?_; (repeat (first | go_big_quiet_step (first | (go_at_call 10; exact NewW.call _ (hs.out _ (NewW.is _)))) | quiet_step (first | (go_at_call 10; exact NewW.call _ (hs.out _ (NewW.is _)))))); refine wpQuiet_nil ?_; rintro W2 ⟨⟨_, hn_W2⟩, rfl⟩)
      go_wp2
      go_roundw
      case rel => exact ⟨i + 1, by go_num, by omega, hnw1.out.next hn_W2⟩
      case measure => simp [intOf]; omega
    · have hin : i = m := by omega
      subst hin
      go_wp2
      go_ret
      exact ⟨rfl, hn2H.out.next hnw⟩
theorem core (A : Option Addr) (n c : Nat) (K V : Nat → Int) (w : World) (hJ : RdV w A n K V) (hV : ∀ i, i < n → I64 (V i)) (hA : A = none → n = 0 ∧ c = 0) (hn : n * 16 ≤ 140737488355328) :
    Calls Try.prog 4 #[.slice A n c] w fun e w' => e = .returned (.bool true) ∧ New w w' := by
  by_cases hm : 300 < n
  · exact core_of 1 (fun _ => 0) (fun _ => []) 0 n c (by omega) A K V w hJ hA hn (fun A1 c1 w' h => Play_long A1 n c1 _ _ w' hm h.1) (fun w' _ => Ref_long A n c _ _ w' hm hJ.1)
  · exact core_of 0 _ _ n n c (by omega) A K V w hJ hA hn (fun A1 c1 w' h => Play_ok n c1 A1 K V w' (by omega) h) (fun w' hw => Ref_ok n c A K V w' (by omega) (hJ.new hw) hV)
set_option maxRecDepth 100000 in
theorem walk {H : Type} (enc : TypeId × Value → H) (W : World) {base : Nat} {v0 : Value} {d0 : DataW H} {p0 : List MemPlace} (ok0 : Value.okWide Try.prog W .any base 29 v0) (h0 : DataW.Trod enc Try.prog W 0 (fun _ => true) true 29 v0 d0 p0)
    (hsz : (DataW.weightsEach Try.prog (Try.f4.params.toList ++ Rows.snapPlaysSpec.plain.varTypes Try.prog) ([d0] ++ [])).all (· ≤ reachBytes) = true) :
    Calls Try.prog 4 #[v0] W fun e W' => e = .returned (.bool true) ∧ Below W.heap.size W W' := by
  obtain ⟨A, n, c, K, V, rfl, hJ, hV, hA, hd⟩ := open_moves ok0 h0
  refine core A n c K V W hJ hV hA ?_
  rcases hd with h0 | ⟨elems, spare, rfl, hl⟩
  · omega
  · have h1 := sized_slice (j := 0) hsz rfl rfl Try.underlying29
    rw [show Try.prog.bytesOf 54 = 16 by kernel_rfl, hl] at h1
    have h2 : reachBytes = 140737488351232 := by decide
    omega
end Go.Proofs.Ytiffgeglbafenaa.snapPlays
