/-
  The law's own comparisons: bytes, texts, answers.
-/
import Derived.Test.YtmpaheaedaeakaaPoolPlayedAll
import Derived.Test.YtmpaheaedaeakaaQuietTail
namespace Go.Proofs.Ytmpaheaedaeakaa.pool
open Go.ChangeShapes Go.WideShapes Go.ChangeAt Go.RowKit Go.Proofs.Ytmpaheaedaeakaa.kit Go.Deep
set_option linter.unusedVariables false
set_option maxRecDepth 100000
theorem sameBytes_eq (A B : Option Addr) (n c d : Nat) (Y Z : Nat → Int) (w : World) (hY : RdI .u8 w A n Y) (hZ : RdI .u8 w B n Z) (he : ∀ i, i < n → Y i = Z i) :
    Calls Try.prog 23 #[.slice A n c, .slice B n d] w fun e w' => e = .returned (.bool true) ∧ New w w' := by
  have hm := hY.1
  unfold maxLen at hm
  have he1 := Lib.hid he
  clear he
  go_enter Try.func23, Try.ntmps23
  go_wp2
  go_loopw [5] (fun k wr => ∃ i : Nat, k = .int .i64 i ∧ i ≤ n ∧ New w wr) (fun k _ => n - (intOf k).toNat)
  case atStart => exact ⟨0, rfl, by omega, New.refl w⟩
  case round =>
    obtain ⟨i, rfl, hi, hnw⟩ := hrel
    by_cases hlt : i < n
    · obtain ⟨b, off, rfl, hb, hcs⟩ := hY.2 (by omega)
      obtain ⟨b', off', rfl, hb', hcs'⟩ := hZ.2 (by omega)
      have c0 := (hnw.cell hb).trans (hcs i hlt)
      have c1 := (hnw.cell hb').trans (hcs' i hlt)
      have he := he1.out i hlt
      clear hcs hcs'
      go_wp2
      go_quiet (fail)
      go_wp2
      go_roundw
      case rel => exact ⟨i + 1, by go_num, by omega, hnw.drewN _⟩
      case measure => simp [intOf]; omega
    · have hin : i = n := by omega
      subst hin
      go_wp2
      go_ret
      exact ⟨rfl, hnw⟩
theorem Ns.read {w : World} {v : Value} {l : List Nm} (h : Ns w v l) : ∃ A c, v = .slice A l.length c ∧ l.length ≤ maxLen ∧ (0 < l.length → ∃ g, A = some ⟨g, 0, none⟩ ∧ g < w.heap.size ∧ ∀ i, i < l.length → w.cell? ⟨g, i, none⟩ = some (encStr (l.getD i []))) := by
  obtain ⟨A, c, rfl, h1, h2, h3, h4⟩ := own_open h
  refine ⟨A, c, rfl, by omega, fun h0 => ?_⟩
  obtain ⟨g, rfl, _, hg⟩ := h3 h0
  exact ⟨g, rfl, hg, fun i hi => h4 g rfl i _ (by simp [hi])⟩
theorem sameTexts_eq (v1 v2 : Value) (l : List Nm) (w : World) (h1 : Ns w v1 l) (h2 : Ns w v2 l) :
    Calls Try.prog 24 #[v1, v2] w fun e w' => e = .returned (.bool true) ∧ New w w' := by
  obtain ⟨A, c, rfl, hm, hA⟩ := h1.read
  obtain ⟨B, d, rfl, _, hB⟩ := h2.read
  unfold maxLen at hm
  have hA := Lib.hid hA
  have hB := Lib.hid hB
  obtain ⟨n, hn⟩ : ∃ n, n = l.length := ⟨_, rfl⟩
  rw [← hn] at hm hA hB ⊢
  clear hn h1 h2
  go_enter Try.func24, Try.ntmps24
  go_wp2
  go_loopw [5] (fun k wr => ∃ i : Nat, k = .int .i64 i ∧ i ≤ n ∧ New w wr) (fun k _ => n - (intOf k).toNat)
  case atStart => exact ⟨0, rfl, by omega, New.refl w⟩
  case round =>
    obtain ⟨i, rfl, hi, hnw⟩ := hrel
    by_cases hlt : i < n
    · obtain ⟨g, rfl, hg, hcs⟩ := hA.out (by omega)
      obtain ⟨g', rfl, hg', hcs'⟩ := hB.out (by omega)
      have c0 := (hnw.cell (p := ⟨g, i, none⟩) hg).trans (hcs i hlt)
      have c1 := (hnw.cell (p := ⟨g', i, none⟩) hg').trans (hcs' i hlt)
      obtain ⟨y, hy⟩ : ∃ y, Hid (y = l.getD i []) := ⟨_, rfl⟩
      rw [← hy.out] at c0 c1
      clear hcs hcs'
      go_wp2
      go_quiet (fail)
      go_wp2
      go_roundw
      case rel => exact ⟨i + 1, by go_num, by omega, hnw.drewN _⟩
      case measure => simp [intOf]; omega
    · have hin : i = n := by omega
      subst hin
      go_wp2
      go_ret
      exact ⟨rfl, hnw⟩
theorem sameTold_eq (t : Td) (d1 d2 n1 n2 : Value) (w : World) (h1 : Bs w d1 t.dat) (h2 : Bs w d2 t.dat) (h3 : Ns w n1 t.names) (h4 : Ns w n2 t.names) :
    Calls Try.prog 10 #[.agg #[.int .i64 t.code, .bool false, .int .i64 (t.size : Nat), d1, n1], .agg #[.int .i64 t.code, .bool false, .int .i64 (t.size : Nat), d2, n2]] w fun e w' => e = .returned (.bool true) ∧ New w w' := by
  have hst := Lib.hid (fun (w' : World) (hn : New w w') => sameTexts_eq n1 n2 t.names w' (h3.new hn) (h4.new hn))
  obtain ⟨A1, c1, rfl, _, _, _, hr1⟩ := h1.read
  obtain ⟨A2, c2, rfl, _, _, _, hr2⟩ := h2.read
  obtain ⟨B1, e1, rfl, _⟩ := own_open h3
  obtain ⟨B2, e2, rfl, _⟩ := own_open h4
  have hsb := Lib.hid (fun (w' : World) (hn : New w w') => sameBytes_eq A1 A2 t.dat.n c1 c2 _ _ w' (hr1.new hn) (hr2.new hn) fun _ _ => rfl)
  generalize t.names.length = k at hst ⊢
  generalize t.dat.n = dn at hsb ⊢
  generalize t.code = cd
  generalize t.size = sz
  clear h1 h2 h3 h4 hr1 hr2
  obtain ⟨W1, hW1⟩ : ∃ W1, W1 = (w.alloc (.cells #[.int .i64 cd, .bool false, .int .i64 (sz : Nat), .slice A1 dn c1, .slice B1 k e1] 37)).alloc (.cells #[.int .i64 cd, .bool false, .int .i64 (sz : Nat), .slice A2 dn c2, .slice B2 k e2] 37) := ⟨_, rfl⟩
  have hN1 : Hid (New w W1) := by show New _ _; rw [hW1]; exact ((New.refl w).alloc _).alloc _
  have hb1 : Hid (Blk W1 w.heap.size 37 #[.int .i64 cd, .bool false, .int .i64 (sz : Nat), .slice A1 dn c1, .slice B1 k e1]) := by
    show Blk _ _ _ _
    rw [hW1]
    exact (Blk.fresh w _ _).alloc _
  have hb2 : Hid (Blk W1 (w.heap.size + 1) 37 #[.int .i64 cd, .bool false, .int .i64 (sz : Nat), .slice A2 dn c2, .slice B2 k e2]) := by
    show Blk _ _ _ _
    rw [hW1]
    have h := Blk.fresh (w.alloc (.cells #[.int .i64 cd, .bool false, .int .i64 (sz : Nat), .slice A1 dn c1, .slice B1 k e1] 37)) 37 #[.int .i64 cd, .bool false, .int .i64 (sz : Nat), .slice A2 dn c2, .slice B2 k e2]
    simpa using h
  obtain ⟨⟨x0, x1, x2, x3, x4⟩, _, _⟩ := told_cells hb1.out
  obtain ⟨⟨y0, y1, y2, y3, y4⟩, _, _⟩ := told_cells hb2.out
  go_enter Try.func10, Try.ntmps10
  go_upto_region 1 with fail
  rw [← hW1]
  clear hW1
  go_wp2_with (first
    | (go_at_call 23; refine (hsb.out _ hN1.out).mono ?_; rintro e w2 ⟨rfl, hn2⟩; have hn2 := Lib.hid hn2; obtain ⟨⟨_, _, _, _, x4⟩, _, _⟩ := told_cells (hb1.out.new hn2.out); obtain ⟨⟨_, _, _, _, y4⟩, _, _⟩ := told_cells (hb2.out.new hn2.out))
    | (go_at_call 24; refine (hst.out _ (hN1.out.next hn2.out)).mono ?_; rintro e w3 ⟨rfl, hn3⟩; have hn3 := Lib.hid hn3))
  go_ret
  exact ⟨rfl, (hN1.out.next hn2.out).next hn3.out⟩
theorem sameTolds_eq (T : Nat → Td) (m : Nat) (hm : m ≤ 300) (v v' : Value) (dv nv dv' nv' : Nat → Value) (b b' : Nat) (w : World) (h : w.ownsRow b 37 5 v m (tdL T dv nv m)) (h' : w.ownsRow b' 37 5 v' m (tdL T dv' nv' m))
    (hd : ∀ j, j < m → Bs w (dv j) (T j).dat ∧ Ns w (nv j) (T j).names) (hd' : ∀ j, j < m → Bs w (dv' j) (T j).dat ∧ Ns w (nv' j) (T j).names) :
    Calls Try.prog 6 #[v, v'] w fun e w' => e = .returned (.bool true) ∧ New w w' := by
  obtain ⟨A, c, rfl, hc1, hc2, hA, hcell⟩ := own_open h
  obtain ⟨A', c', rfl, hc1', hc2', hA', hcell'⟩ := own_open h'
  have hcl := Lib.hid hcell
  have hcl' := Lib.hid hcell'
  have hA1 := Lib.hid hA
  have hA1' := Lib.hid hA'
  have hdH := Lib.hid hd
  have hdH' := Lib.hid hd'
  clear hcell hcell' hA hA' h h' hd hd'
  go_enter Try.func6, Try.ntmps6
  go_wp2
  go_loopw [5] (fun k wr => ∃ i : Nat, k = .int .i64 i ∧ i ≤ m ∧ New w wr) (fun k _ => m - (intOf k).toNat)
  case atStart => exact ⟨0, rfl, by omega, New.refl w⟩
  case round =>
    obtain ⟨i, rfl, hi, hnw⟩ := hrel
    by_cases hlt : i < m
    · obtain ⟨g, rfl, _, hg⟩ := hA1.out (by omega)
      obtain ⟨g', rfl, _, hg'⟩ := hA1'.out (by omega)
      obtain ⟨q0, q1, q2, q3, q4⟩ := tdL_at T dv nv m i hlt
      obtain ⟨p0, p1, p2, p3, p4⟩ := tdL_at T dv' nv' m i hlt
      have hs : Hid (∀ w', New wr w' → Calls Try.prog 10 #[.agg #[.int .i64 (T i).code, .bool false, .int .i64 ((T i).size : Nat), dv i, nv i], .agg #[.int .i64 (T i).code, .bool false, .int .i64 ((T i).size : Nat), dv' i, nv' i]] w' fun e w'' => e = .returned (.bool true) ∧ New w' w'') := fun w' hn => sameTold_eq (T i) _ _ _ _ w' ((hdH.out i hlt).1.new (hnw.next hn)) ((hdH'.out i hlt).1.new (hnw.next hn)) ((hdH.out i hlt).2.new (hnw.next hn)) ((hdH'.out i hlt).2.new (hnw.next hn))
      obtain ⟨X1, f1, hx1⟩ := (hdH.out i hlt).1.form
      obtain ⟨X2, f2, hx2⟩ := (hdH'.out i hlt).1.form
      obtain ⟨Y1, j1, hy1, _⟩ := own_open (hdH.out i hlt).2
      obtain ⟨Y2, j2, hy2, _⟩ := own_open (hdH'.out i hlt).2
      obtain ⟨cd, hcd⟩ : ∃ cd, Hid (cd = (T i).code) := ⟨_, rfl⟩
      obtain ⟨sz, hsz⟩ : ∃ sz, Hid (sz = (T i).size) := ⟨_, rfl⟩
      obtain ⟨dn, hdn⟩ : ∃ dn, Hid (dn = (T i).dat.n) := ⟨_, rfl⟩
      obtain ⟨nn, hnn⟩ : ∃ nn, Hid (nn = (T i).names.length) := ⟨_, rfl⟩
      rw [← hdn.out] at hx1 hx2
      rw [← hnn.out] at hy1 hy2
      rw [← hcd.out] at q0 p0
      rw [← hsz.out] at q2 p2
      rw [hx1, hx2, hy1, hy2, ← hcd.out, ← hsz.out] at hs
      rw [hx1] at q3
      rw [hy1] at q4
      rw [hx2] at p3
      rw [hy2] at p4
      have c0 := (hnw.cell (p := ⟨g, i * 5, none⟩) hg).trans (hcl.out g rfl _ _ q0)
      have c1 := (hnw.cell (p := ⟨g, i * 5 + 1, none⟩) hg).trans (hcl.out g rfl _ _ q1)
      have c2 := (hnw.cell (p := ⟨g, i * 5 + 2, none⟩) hg).trans (hcl.out g rfl _ _ q2)
      have c3 := (hnw.cell (p := ⟨g, i * 5 + 3, none⟩) hg).trans (hcl.out g rfl _ _ q3)
      have c4 := (hnw.cell (p := ⟨g, i * 5 + 4, none⟩) hg).trans (hcl.out g rfl _ _ q4)
      have d0 := (hnw.cell (p := ⟨g', i * 5, none⟩) hg').trans (hcl'.out g' rfl _ _ p0)
      have d1 := (hnw.cell (p := ⟨g', i * 5 + 1, none⟩) hg').trans (hcl'.out g' rfl _ _ p1)
      have d2 := (hnw.cell (p := ⟨g', i * 5 + 2, none⟩) hg').trans (hcl'.out g' rfl _ _ p2)
      have d3 := (hnw.cell (p := ⟨g', i * 5 + 3, none⟩) hg').trans (hcl'.out g' rfl _ _ p3)
      have d4 := (hnw.cell (p := ⟨g', i * 5 + 4, none⟩) hg').trans (hcl'.out g' rfl _ _ p4)
      have hnw1 := Lib.hid hnw
      clear q0 q1 q2 q3 q4 p0 p1 p2 p3 p4 hx1 hx2 hy1 hy2 hnw
      have k0 := NewW.keep c0
      have k1 := NewW.keep c1
      have k2 := NewW.keep c2
      have k3 := NewW.keep c3
      have k4 := NewW.keep c4
      have k5 := NewW.keep d0
      have k6 := NewW.keep d1
      have k7 := NewW.keep d2
      have k8 := NewW.keep d3
      have k9 := NewW.keep d4
      have a1 : (i : Int) < (m : Int) := by omega
      have a3 : (0 : Int) ≤ (i : Int) := by omega
      go_wp2
      (refine wp_region_quiet_new (by kernel_rfl) (by kernel_rfl) ?_; (repeat (first | go_big_quiet_step (first | (go_at_call 10; exact NewW.call _ (hs.out _ (NewW.is _)))) | quiet_step (first | (go_at_call 10; exact NewW.call _ (hs.out _ (NewW.is _)))))); refine wpQuiet_nil ?_; rintro W2 ⟨⟨_, hn_W2⟩, rfl⟩)
      go_wp2
      go_roundw
      case rel => exact ⟨i + 1, by go_num, by omega, hnw1.out.next hn_W2⟩
      case measure => simp [intOf]; omega
    · have hin : i = m := by omega
      subst hin
      go_wp2
      go_ret
      exact ⟨rfl, hnw⟩
end Go.Proofs.Ytmpaheaedaeakaa.pool
