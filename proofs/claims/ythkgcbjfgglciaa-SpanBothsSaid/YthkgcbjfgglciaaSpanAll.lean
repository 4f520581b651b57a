/-
  Contracts of span.Add, span.Cut and span.Both.
-/
import Derived.Test.YthkgcbjfgglciaaSpanRefAll
import Derived.Test.YthkgcbjfgglciaaSpanSwept
import Derived.Test.YthkgcbjfgglciaaSpanSwept0
import Derived.Laws.AppendOwnNone
namespace Go.Proofs.Ythkgcbjfgglciaa.spans
open Go.ChangeShapes Go.WideShapes Go.ChangeAt Go.RowKit Go.Proofs.Ythkgcbjfgglciaa.kit Go.Proofs.Ythkgcbjfgglciaa.span Go.Deep
set_option linter.unusedVariables false
theorem has_zero (F T : Nat → Int) (x : Int) : hasB 0 F T x = false := by simp [hasB]
theorem none_iff (F T G U : Nat → Int) (x : Int) : (hasB 0 F T x && hasB 0 G U x) = true ↔ inR [] x := by
  rw [has_zero]
  exact ⟨fun h => (by cases h), fun h => absurd h (inR_nil x)⟩
theorem bothP {n m : Nat} {F T G U : Nat → Int} (h1 : mayB n F T = true) (h2 : mayB m G U = true) (x : Int) : (dep (edL F T 1 n ++ edL G U 1 m) x == 2) = (hasB n F T x && hasB m G U x) := by
  rw [dep_append, dep_has h1, dep_has h2]
  cases hasB n F T x <;> cases hasB m G U x <;> rfl
theorem addP {n : Nat} {F T G U : Nat → Int} (h1 : mayB n F T = true) (h2 : mayB 1 G U = true) (x : Int) : decide (0 < dep (edL F T 1 n ++ edL G U 1 1) x) = (hasB n F T x || hasB 1 G U x) := by
  rw [dep_append, dep_has h1, dep_has h2]
  cases hasB n F T x <;> cases hasB 1 G U x <;> rfl
theorem cutP {n : Nat} {F T G U : Nat → Int} (h1 : mayB n F T = true) (h2 : mayB 1 G U = true) (x : Int) : decide (0 < dep (edL F T 1 n ++ edL G U (-1) 1) x) = (hasB n F T x && !hasB 1 G U x) := by
  rw [dep_append, dep_has h1, dep_has h2]
  cases hasB n F T x <;> cases hasB 1 G U x <;> rfl
theorem ed_bd {n m : Nat} {F T G U : Nat → Int} {b : Int} (h1 : mayB n F T = true) (h2 : mayB m G U = true) (hb : b = 1 ∨ b = -1) : ∀ e ∈ edL F T 1 n ++ edL G U b m, 0 ≤ e.1 ∧ e.1 ≤ 1048576 ∧ -1 ≤ e.2 ∧ e.2 ≤ 1 := fun e he => by
  rcases List.mem_append.1 he with h | h
  · exact edL_bd (mayB_out h1).2 (.inl rfl) e h
  · exact edL_bd (mayB_out h2).2 hb e h
theorem ed_sum (n m : Nat) (F T G U : Nat → Int) (b : Int) : wsum (edL F T 1 n ++ edL G U b m) = 0 := by rw [wsum_append, wsum_edL, wsum_edL]; rfl
theorem ed_len (n m : Nat) (F T G U : Nat → Int) (b : Int) : (edL F T 1 n ++ edL G U b m).length = 2 * n + 2 * m := by rw [List.length_append, edL_len, edL_len]
set_option maxRecDepth 100000 in
theorem enterAdd1 : ∀ (args : Array Value) (w : World), (callFunc 43 args).run Try.prog w = .ok (.enter 43 args) w := enter_of (fn := Try.f43) (by rfl) (by kernel_rfl) (by rfl)
set_option maxRecDepth 100000 in
theorem enterCut1 : ∀ (args : Array Value) (w : World), (callFunc 47 args).run Try.prog w = .ok (.enter 47 args) w := enter_of (fn := Try.f47) (by rfl) (by kernel_rfl) (by rfl)
set_option maxRecDepth 100000 in
theorem enterBoth1 : ∀ (args : Array Value) (w : World), (callFunc 49 args).run Try.prog w = .ok (.enter 49 args) w := enter_of (fn := Try.f49) (by rfl) (by kernel_rfl) (by rfl)
theorem slice_own {w : World} {base : Nat} {e : TypeId} {size : Nat} {v : Value} {n : Nat} {xs : List Value} (h : w.ownsRow base e size v n xs) : ∃ A c, v = .slice A n c ∧ (0 < n → ∃ g, A = some ⟨g, 0, none⟩ ∧ base ≤ g) := by
  obtain ⟨A, c, hv, _, _, h1, _⟩ := own_open h
  exact ⟨A, c, hv, fun h => (h1 h).elim fun g hg => ⟨g, hg.1, hg.2.1⟩⟩
theorem rd_one2 (w : World) (g : Nat) (hg : g = w.heap.size) (f t : Int) (T : TypeId) : Rd (w.alloc (.cells #[.int .i64 f, .int .i64 t] T)) (some ⟨g, 0, none⟩) 1 (fun _ => f) (fun _ => t) := by
  rw [hg]
  exact rd_one w f t T
theorem rd_one3 (w : World) (g : Nat) (hg : g = w.heap.size) (f t : Int) (T : TypeId) : Rd (w.alloc (.cells #[.int .i64 f, .int .i64 t] T)).drew (some ⟨g, 0, none⟩) 1 (fun _ => f) (fun _ => t) := rd_one2 w g hg f t T
theorem told_is (A : Option Addr) (n c : Nat) (w : World) (hn : n ≤ maxLen) (u : Value) (cd : Int) (hu : u = if n ≤ 200 then Value.slice A n c else .slice none 0 0) (hc : cd = if n ≤ 200 then 0 else 8) :
    Calls Try.prog 40 #[.slice A n c] w fun e w' => e = .returned (.tuple #[u, .int .i64 cd]) ∧ w = w' := by
  rw [hu, hc]
  exact told_any A n c w hn
theorem SetAns.of {S : Int → Bool} {w w' : World} {v : Value} {R : Rs} (h1 : normR R) (h2 : ∀ x, S x = true ↔ inR R x) (h3 : R.length ≤ 2000) (h4 : w'.ownsRow w.heap.size 30 2 v R.length (encE R)) (hn : New w w') {u : Value} {cd : Int}
    (hu : u = if R.length ≤ 200 then v else .slice none 0 0) (hc : cd = if R.length ≤ 200 then 0 else 8) : SetAns S w (.returned (.tuple #[u, .int .i64 cd])) w' :=
  ⟨⟨v, R, h1, h2, h3, h4, by rw [hu, hc]⟩, hn⟩
set_option maxRecDepth 100000 in
theorem Both_bad (A B : Option Addr) (n c m d : Nat) (F T G U : Nat → Int) (w : World) (h : Rd w A n F T) (hB : Rd w B m G U) (hno : ¬ (mayB n F T = true ∧ mayB m G U = true)) :
    Calls Try.prog 26 #[.slice A n c, .slice B m d] w fun e w' => e = .returned (.tuple #[.slice none 0 0, .int .i64 4]) ∧ New w w' := by
  have h0 := Lib.hid h
  have hB0 := Lib.hid hB
  have hno0 := Lib.hid hno
  clear h hB hno
  go_enter Try.func26, Try.ntmps26
  go_wp2_with fail
  refine (May_any A n c F T _ h0.out).mono ?_
  cases hb : mayB n F T with
  | false =>
    rintro e w1 ⟨rfl, hn1⟩
    clear hb
    go_wp2
    go_ret2
    exact ⟨rfl, hn1⟩
  | true =>
    rintro e w1 ⟨rfl, hn1⟩
    have hb0 := Lib.hid hb
    clear hb
    have hno2 : mayB m G U = false := by
      cases hb2 : mayB m G U with
      | false => rfl
      | true => exact absurd ⟨hb0.out, hb2⟩ hno0.out
    have hno3 := Lib.hid hno2
    clear hno2
    go_wp2_with fail
    refine (May_any B m d G U _ (hB0.out.new hn1)).mono ?_
    rw [hno3.out]
    rintro e w2 ⟨rfl, hn2⟩
    go_wp2
    go_ret2
    exact ⟨rfl, hn1.next hn2⟩
set_option maxRecDepth 100000 in
set_option maxHeartbeats 1000000 in
theorem Both_ok (A B : Option Addr) (n c m d : Nat) (F T G U : Nat → Int) (w : World) (h : Rd w A n F T) (hB : Rd w B m G U) (hyes : mayB n F T = true ∧ mayB m G U = true) :
    Calls Try.prog 26 #[.slice A n c, .slice B m d] w (SetAns (fun x => hasB n F T x && hasB m G U x) w) := by
  obtain ⟨i0, hi0, hz0, hz1, hz2⟩ := info_parts infoEdge
  have h0 := Lib.hid h
  have hB0 := Lib.hid hB
  obtain ⟨hb, hb'⟩ := hyes
  have hn200 := (mayB_out hb).1
  have hm200 := (mayB_out hb').1
  have hb0 := Lib.hid hb
  have hb1 := Lib.hid hb'
  clear h hB hb hb'
  go_enter Try.func26, Try.ntmps26
  go_wp2_with fail
  refine (May_any A n c F T _ h0.out).mono ?_
  rw [hb0.out]
  rintro e w1 ⟨rfl, hn1⟩
  go_wp2_with fail
  refine (May_any B m d G U _ (hB0.out.new hn1)).mono ?_
  rw [hb1.out]
  rintro e w2 ⟨rfl, hn2⟩
  have hN2 := hn1.next hn2
  go_wp2_with fail
  refine (edges_any A n c 1 F T _ (h0.out.new hN2) hn200 (.inl rfl)).mono ?_
  rintro e w3 ⟨v1, rfl, hown1, hn3⟩
  have hN3 := hN2.next hn3
  go_wp2_with fail
  refine (edges_any B m d 1 G U _ (hB0.out.new hN3) hm200 (.inl rfl)).mono ?_
  rintro e w4 ⟨v2, rfl, hown2, hn4⟩
  have hN4 := hN3.next hn4
  have hown1 := own_mono (own_new hown1 hn4) hN2.size
  have hown2 := own_mono hown2 hN3.size
  have hcut : Hid (∀ (v5 : Value) (w5 : World), w5.ownsRow w.heap.size 84 2 v5 (2 * n + 2 * m) (encE (edL F T 1 n ++ edL G U 1 m)) → New w w5 → ∃ A5 c5, v5 = .slice A5 (2 * n + 2 * m) c5 ∧ Hid (New w w5) ∧
      Calls Try.prog 41 #[.slice A5 (2 * n + 2 * m) c5, .func (.func 49) #[] #[]] w5 fun e w' => (∃ (A6 : Option Addr) (c6 : Nat) (R : Rs), e = .returned (.slice A6 R.length c6) ∧ R.length ≤ 2000 ∧ Hid (normR R ∧ (∀ x, (hasB n F T x && hasB m G U x) = true ↔ inR R x) ∧ w'.ownsRow w.heap.size 30 2 (.slice A6 R.length c6) R.length (encE R))) ∧ Hid (New w w')) := fun v5 w5 hown5 hN5 => by
    obtain ⟨A5, c5, rfl, hA5⟩ := slice_own hown5
    refine ⟨A5, c5, rfl, hN5, ?_⟩
    rcases Nat.eq_zero_or_pos (n + m) with hz | hz
    · obtain rfl : n = 0 := by omega
      obtain rfl : m = 0 := by omega
      refine (swept_none A5 c5 49 w5).mono ?_
      rintro e w6 ⟨rfl, hn6⟩
      exact ⟨⟨none, 0, [], rfl, by simp, ⟨List.Pairwise.nil, fun p hp => by cases hp⟩, none_iff F T G U, World.ownsRow_nil _ _ _ _⟩, hN5.next hn6⟩
    · obtain ⟨g, rfl, hg⟩ := hA5 (by omega)
      refine (swept_any g c5 49 (2 * n + 2 * m) (fun d => d == 2) (edL F T 1 n ++ edL G U 1 m) (ed_len _ _ _ _ _ _ _) w.heap.size w5 enterBoth1 (by omega) (by omega) hown5 (ed_bd hb0.out hb1.out (.inl rfl)) (ed_sum _ _ _ _ _ _ _) rfl (fun d w' => Both1_any d w')).mono ?_
      rintro e w6 ⟨⟨v6, R, rfl, hown6, hR1, hR2, hR3⟩, hgr⟩
      obtain ⟨A6, c6, rfl, _⟩ := slice_own hown6
      exact ⟨⟨A6, c6, R, rfl, by omega, hR2, (fun x => by rw [← bothP hb0.out hb1.out]; exact hR3 x), own_mono hown6 hN5.size⟩, hN5.grown1 hgr hg⟩
  have hone : ∀ u ∈ encE (edL G U 1 m), u.oneCell' = true := encE_one _
  rcases hown2.2 with ⟨rfl, hnil⟩ | ⟨g2, c2, cur, rfl, hbg, hg2, hle, _, hcs, htk⟩
  · obtain rfl : m = 0 := by omega
    go_wp2_with (refine wpList_append_own_none rfl _ _ 60 rfl w.heap.size 84 i0 2 Try.underlying60 hi0 v1 (2 * n) (encE (edL F T 1 n)) rfl hown1 rfl ?_)
    obtain ⟨A5, c5, rfl, hN5, hcall⟩ := hcut.out v1 _ (by simpa [edL] using hown1) hN4
    go_wp2_with fail
    refine hcall.mono ?_
    rintro e w6 ⟨⟨A6, c6, R, rfl, hRl, hR⟩, hN6⟩
    have hk : Hid (R.length ≤ maxLen) := (show R.length ≤ maxLen by unfold maxLen; omega)
    go_wp2_with fail
    refine (told_any A6 R.length c6 _ hk.out).mono ?_
    obtain ⟨u, hu⟩ : ∃ u, Hid (u = if R.length ≤ 200 then Value.slice A6 R.length c6 else .slice none 0 0) := ⟨_, rfl⟩
    obtain ⟨cd, hcd⟩ : ∃ cd : Int, Hid (cd = if R.length ≤ 200 then 0 else 8) := ⟨_, rfl⟩
    rw [← hu.out, ← hcd.out]
    rintro e w7 ⟨rfl, rfl⟩
    have hans := Lib.hid (SetAns.of hR.out.1 hR.out.2.1 hRl hR.out.2.2 hN6.out hu.out hcd.out)
    clear hR hRl hu hcd
    go_wp2
    go_ret2
    exact hans.out
  · have hnews : ∀ j u, (encE (edL G U 1 m))[j]? = some u → w4.cell? ((⟨g2, 0, none⟩ : Addr).add j) = some u := hown2.cells rfl
    go_wp2_with (at_builtin; refine wpList_append_own _ rfl _ _ 60 rfl w.heap.size 84 i0 _ 2 16 Try.underlying60 hi0 hz0 hz1 hz2 rfl (by decide) v1 (2 * n) (encE (edL F T 1 n)) rfl hown1 ⟨g2, 0, none⟩ (2 * m) c2 (encE (edL G U 1 m)) rfl (by rw [encE_len, edL_len]; omega) hnews hone (by unfold maxLen; omega) (by omega) hN4.size ?_; intro v5 w5 hown5 hgrow5 hnil5)
    have hN5 : New w w5 := hN4.grown hgrow5 (fun g hg => (hown1.lt g hg).1)
    obtain ⟨A5, c5, rfl, hN5, hcall⟩ := hcut.out v5 _ (by rw [encE_append]; exact hown5) hN5
    clear hgrow5 hnil5
    go_wp2_with fail
    refine hcall.mono ?_
    rintro e w6 ⟨⟨A6, c6, R, rfl, hRl, hR⟩, hN6⟩
    have hk : Hid (R.length ≤ maxLen) := (show R.length ≤ maxLen by unfold maxLen; omega)
    go_wp2_with fail
    refine (told_any A6 R.length c6 _ hk.out).mono ?_
    obtain ⟨u, hu⟩ : ∃ u, Hid (u = if R.length ≤ 200 then Value.slice A6 R.length c6 else .slice none 0 0) := ⟨_, rfl⟩
    obtain ⟨cd, hcd⟩ : ∃ cd : Int, Hid (cd = if R.length ≤ 200 then 0 else 8) := ⟨_, rfl⟩
    rw [← hu.out, ← hcd.out]
    rintro e w7 ⟨rfl, rfl⟩
    have hans := Lib.hid (SetAns.of hR.out.1 hR.out.2.1 hRl hR.out.2.2 hN6.out hu.out hcd.out)
    clear hR hRl hu hcd
    go_wp2
    go_ret2
    exact hans.out
set_option maxRecDepth 100000 in
theorem Add_bad (A : Option Addr) (n c : Nat) (F T : Nat → Int) (f t : Int) (w : World) (h : Rd w A n F T) (hno : ¬ (mayB n F T = true ∧ oneP f t)) :
    Calls Try.prog 21 #[.slice A n c, .agg #[.int .i64 f, .int .i64 t]] w fun e w' => e = .returned (.tuple #[.slice none 0 0, .int .i64 4]) ∧ New w w' := by
  have h0 := Lib.hid h
  have hno0 := Lib.hid hno
  clear h hno
  have hN1 : New w (w.alloc (.cells #[.int .i64 f, .int .i64 t] 30)) := (New.refl w).alloc _
  obtain ⟨W1, hW1⟩ : ∃ W1, W1 = w.alloc (.cells #[.int .i64 f, .int .i64 t] 30) := ⟨_, rfl⟩
  rw [← hW1] at hN1
  have k0 : W1.cell? ⟨w.heap.size, 0, none⟩ = some (.int .i64 f) := by rw [hW1]; simp
  have k1 : W1.cell? ⟨w.heap.size, 1, none⟩ = some (.int .i64 t) := by rw [hW1]; simp
  go_enter Try.func21, Try.ntmps21
  go_wp2_with fail
  rw [← hW1]
  refine (May_any A n c F T _ (h0.out.new hN1)).mono ?_
  cases hb : mayB n F T with
  | false =>
    rintro e w1 ⟨rfl, hn1⟩
    clear hb
    go_wp2
    go_ret2
    exact ⟨rfl, hN1.next hn1⟩
  | true =>
    rintro e w1 ⟨rfl, hn1⟩
    have hb0 := Lib.hid hb
    clear hb
    have j0 := (hn1.cell (lt_of_cell k0)).trans k0
    have j1 := (hn1.cell (lt_of_cell k1)).trans k1
    have hno2 : decide (oneP f t) = false := decide_eq_false fun h2 => hno0.out ⟨hb0.out, h2⟩
    have hno3 := Lib.hid hno2
    clear hno2
    go_wp2_with fail
    refine (one_any f t _).mono ?_
    rw [hno3.out]
    rintro e w2 ⟨rfl, hn2⟩
    go_wp2
    go_ret2
    exact ⟨rfl, (hN1.next hn1).next hn2⟩
set_option maxRecDepth 100000 in
set_option maxHeartbeats 4000000 in
theorem Add_ok (A : Option Addr) (n c : Nat) (F T : Nat → Int) (f t : Int) (w : World) (h : Rd w A n F T) (hyes : mayB n F T = true ∧ oneP f t) :
    Calls Try.prog 21 #[.slice A n c, .agg #[.int .i64 f, .int .i64 t]] w (SetAns (fun x => hasB n F T x || hasB 1 (fun _ => f) (fun _ => t) x) w) := by
  obtain ⟨i0, hi0, hz0, hz1, hz2⟩ := info_parts infoEdge
  have h0 := Lib.hid h
  obtain ⟨hb, hb'⟩ := hyes
  have hn200 := (mayB_out hb).1
  have hb0 := Lib.hid hb
  have hb1 := Lib.hid hb'
  have hb2 := Lib.hid (one_hasB f t hb')
  clear h hb hb'
  have hN1 : New w (w.alloc (.cells #[.int .i64 f, .int .i64 t] 30)) := (New.refl w).alloc _
  obtain ⟨W1, hW1⟩ : ∃ W1, W1 = w.alloc (.cells #[.int .i64 f, .int .i64 t] 30) := ⟨_, rfl⟩
  rw [← hW1] at hN1
  have k0 : W1.cell? ⟨w.heap.size, 0, none⟩ = some (.int .i64 f) := by rw [hW1]; simp
  have k1 : W1.cell? ⟨w.heap.size, 1, none⟩ = some (.int .i64 t) := by rw [hW1]; simp
  go_enter Try.func21, Try.ntmps21
  go_wp2_with fail
  rw [← hW1]
  refine (May_any A n c F T _ (h0.out.new hN1)).mono ?_
  rw [hb0.out]
  rintro e w1 ⟨rfl, hn1⟩
  have hN2 := hN1.next hn1
  have j0 := (hn1.cell (lt_of_cell k0)).trans k0
  have j1 := (hn1.cell (lt_of_cell k1)).trans k1
  go_wp2_with fail
  refine (one_any f t _).mono ?_
  rw [decide_eq_true hb1.out]
  rintro e W ⟨rfl, hn2⟩
  have hN3 := Lib.hid (hN2.next hn2)
  have d0 := (hn2.cell (lt_of_cell j0)).trans j0
  have d1 := (hn2.cell (lt_of_cell j1)).trans j1
  clear hN1 hN2 hn1 hn2 j0 j1 k0 k1 hW1
  have hkeep : Hid (∀ w', New W w' → New W w' ∧ w'.cell? ⟨w.heap.size, 0, none⟩ = some (.int .i64 f) ∧ w'.cell? ⟨w.heap.size, 1, none⟩ = some (.int .i64 t)) := fun w' h => ⟨h, (h.cell (lt_of_cell d0)).trans d0, (h.cell (lt_of_cell d1)).trans d1⟩
  have hone : Hid (∀ u ∈ encE (edL (fun _ => f) (fun _ => t) 1 1), u.oneCell' = true) := encE_one _
  have hnl : Hid ((encE (edL (fun _ => f) (fun _ => t) 1 1)).length = 2 * 2) := (show _ = _ by rw [encE_len, edL_len])
  go_wp2_with fail
  go_region_held3 (fun w' => New W w' ∧ w'.cell? ⟨w.heap.size, 0, none⟩ = some (.int .i64 f) ∧ w'.cell? ⟨w.heap.size, 1, none⟩ = some (.int .i64 t))
    (first
      | exact hkeep.out _ (New.refl _).drew
      | assumption
      | exact hkeep.out _ ((And.left ‹New W _ ∧ _›).alloc _)
      | exact hkeep.out _ ((New.refl _).alloc _).drew
      | exact hkeep.out _ hn6
      | exact hkeep.out _ hn5
      | exact hkeep.out _ (New.next (And.left ‹New W _ ∧ _›) hnD)
      | exact hkeep.out _ (New.next (And.left ‹New W _ ∧ _›) hnC))
    (first
      | (go_at_call 42; (with_reducible refine (edges_any A n c 1 F T _ (h0.out.new (hN3.out.next (And.left ‹New W _ ∧ _›))) hn200 (.inl rfl)).mono ?_); rintro e wC ⟨v1, rfl, hownC, hnC⟩; have hown1 := own_mono hownC (And.left ‹New W _ ∧ _›).size; clear hownC; (try have hown2 := own_new hown2 hnC))
      | (go_at_call 42; refine (edges_any (some ⟨_, 0, none⟩) 1 1 1 (fun _ => f) (fun _ => t) _ (rd_one2 _ _ (by rfl) f t _) (by omega) (.inl rfl)).mono ?_; rintro e wD ⟨v2, rfl, hownD, hnD⟩; obtain ⟨A2, c2, rfl, hA2⟩ := slice_own hownD; obtain ⟨g2, rfl, _⟩ := hA2 (by omega); have hown2 := own_mono hownD (Nat.zero_le _); clear hownD hA2; (try have hown1 := own_new hown1 hnD); (try have hown1 := own_new (hown1.alloc _) hnD))
      | (go_at_call 42; refine (edges_any (some ⟨_, 0, none⟩) 1 1 1 (fun _ => f) (fun _ => t) _ ((rd_one2 _ _ (by rfl) f t _).new hnC) (by omega) (.inl rfl)).mono ?_; rintro e wD ⟨v2, rfl, hownD, hnD⟩; obtain ⟨A2, c2, rfl, hA2⟩ := slice_own hownD; obtain ⟨g2, rfl, _⟩ := hA2 (by omega); have hown2 := own_mono hownD (Nat.zero_le _); clear hownD hA2; (try have hown1 := own_new hown1 hnD); (try have hown1 := own_new (hown1.alloc _) hnD))
      | (go_at_call 42; refine (edges_any (some ⟨_, 0, none⟩) 1 1 1 (fun _ => f) (fun _ => t) _ (rd_one3 _ _ (by rfl) f t _) (by omega) (.inl rfl)).mono ?_; rintro e wD ⟨v2, rfl, hownD, hnD⟩; obtain ⟨A2, c2, rfl, hA2⟩ := slice_own hownD; obtain ⟨g2, rfl, _⟩ := hA2 (by omega); have hown2 := own_mono hownD (Nat.zero_le _); clear hownD hA2; (try have hown1 := own_new hown1 hnD); (try have hown1 := own_new (hown1.alloc _) hnD))
      | (go_at_call 42; refine (edges_any (some ⟨_, 0, none⟩) 1 1 1 (fun _ => f) (fun _ => t) _ ((rd_one3 _ _ (by rfl) f t _).new hnC) (by omega) (.inl rfl)).mono ?_; rintro e wD ⟨v2, rfl, hownD, hnD⟩; obtain ⟨A2, c2, rfl, hA2⟩ := slice_own hownD; obtain ⟨g2, rfl, _⟩ := hA2 (by omega); have hown2 := own_mono hownD (Nat.zero_le _); clear hownD hA2; (try have hown1 := own_new hown1 hnD); (try have hown1 := own_new (hown1.alloc _) hnD))
      | (refine step_append_lies _ (by rfl) _ _ 60 (by rfl) W.heap.size 84 i0 _ 2 16 Try.underlying60 hi0 hz0 hz1 hz2 rfl (by decide) v1 (2 * n) (encE (edL F T 1 n)) (by rfl) hown1 ⟨g2, 0, none⟩ 2 c2 (encE (edL (fun _ => f) (fun _ => t) 1 1)) (by rfl) hnl.out (hown2.cells rfl) hone.out (by omega) (by unfold maxLen; omega) (by omega) (And.left ‹New W _ ∧ _›).size _ rfl ?_; intro g5 c5 w5 hown5 hgrow5 hat5 hlt5; have hn5 : New W w5 := (And.left ‹New W _ ∧ _›).grown hgrow5 (fun g hg => (hown1.lt g hg).1); rw [← encE_append] at hown5; clear hgrow5 hat5 hlt5)
      | (go_at_call 41; refine (swept_any g5 c5 43 (2 * n + 2) (fun d => decide (0 < d)) (edL F T 1 n ++ edL (fun _ => f) (fun _ => t) 1 1) (ed_len _ _ _ _ _ _ _) W.heap.size _ enterAdd1 (by omega) (by omega) hown5 (ed_bd hb0.out hb2.out (.inl rfl)) (ed_sum _ _ _ _ _ _ _) rfl (fun d w' => Add1_any d w')).mono ?_; rintro e w6 ⟨⟨v6, R, rfl, hown6, hR1, hR2, hR3⟩, hgr6⟩; obtain ⟨A6, c6, rfl, _⟩ := slice_own hown6; have hn6 : New W w6 := hn5.grown1 hgr6 (hown5.lt _ rfl).1; obtain ⟨u, hu⟩ : ∃ u, Hid (u = if R.length ≤ 200 then Value.slice A6 R.length c6 else .slice none 0 0) := ⟨_, rfl⟩; obtain ⟨cd, hcd⟩ : ∃ cd : Int, Hid (cd = if R.length ≤ 200 then 0 else 8) := ⟨_, rfl⟩; have hans : Hid (SetAns (fun x => hasB n F T x || hasB 1 (fun _ => f) (fun _ => t) x) w (.returned (.tuple #[u, .int .i64 cd])) w6) := SetAns.of hR2 (fun x => by rw [← addP hb0.out hb2.out]; exact hR3 x) (by omega) (own_mono hown6 (hN3.out.next hn5).size) (hN3.out.next hn6) hu.out hcd.out; clear hR2 hR3 hgr6 hown6)
      | (go_at_call 40; refine (told_is A6 R.length c6 _ (by unfold maxLen; omega) u cd hu.out hcd.out).mono ?_; rintro e w7 ⟨rfl, rfl⟩))
  all_goals go_wp2
  all_goals go_ret2
  all_goals exact hans.out
set_option maxRecDepth 100000 in
theorem Cut_bad (A : Option Addr) (n c : Nat) (F T : Nat → Int) (f t : Int) (w : World) (h : Rd w A n F T) (hno : ¬ (mayB n F T = true ∧ oneP f t)) :
    Calls Try.prog 24 #[.slice A n c, .agg #[.int .i64 f, .int .i64 t]] w fun e w' => e = .returned (.tuple #[.slice none 0 0, .int .i64 4]) ∧ New w w' := by
  have h0 := Lib.hid h
  have hno0 := Lib.hid hno
  clear h hno
  have hN1 : New w (w.alloc (.cells #[.int .i64 f, .int .i64 t] 30)) := (New.refl w).alloc _
  obtain ⟨W1, hW1⟩ : ∃ W1, W1 = w.alloc (.cells #[.int .i64 f, .int .i64 t] 30) := ⟨_, rfl⟩
  rw [← hW1] at hN1
  have k0 : W1.cell? ⟨w.heap.size, 0, none⟩ = some (.int .i64 f) := by rw [hW1]; simp
  have k1 : W1.cell? ⟨w.heap.size, 1, none⟩ = some (.int .i64 t) := by rw [hW1]; simp
  go_enter Try.func24, Try.ntmps24
  go_wp2_with fail
  rw [← hW1]
  refine (May_any A n c F T _ (h0.out.new hN1)).mono ?_
  cases hb : mayB n F T with
  | false =>
    rintro e w1 ⟨rfl, hn1⟩
    clear hb
    go_wp2
    go_ret2
    exact ⟨rfl, hN1.next hn1⟩
  | true =>
    rintro e w1 ⟨rfl, hn1⟩
    have hb0 := Lib.hid hb
    clear hb
    have j0 := (hn1.cell (lt_of_cell k0)).trans k0
    have j1 := (hn1.cell (lt_of_cell k1)).trans k1
    have hno2 : decide (oneP f t) = false := decide_eq_false fun h2 => hno0.out ⟨hb0.out, h2⟩
    have hno3 := Lib.hid hno2
    clear hno2
    go_wp2_with fail
    refine (one_any f t _).mono ?_
    rw [hno3.out]
    rintro e w2 ⟨rfl, hn2⟩
    go_wp2
    go_ret2
    exact ⟨rfl, (hN1.next hn1).next hn2⟩
set_option maxRecDepth 100000 in
set_option maxHeartbeats 4000000 in
theorem Cut_ok (A : Option Addr) (n c : Nat) (F T : Nat → Int) (f t : Int) (w : World) (h : Rd w A n F T) (hyes : mayB n F T = true ∧ oneP f t) :
    Calls Try.prog 24 #[.slice A n c, .agg #[.int .i64 f, .int .i64 t]] w (SetAns (fun x => hasB n F T x && !hasB 1 (fun _ => f) (fun _ => t) x) w) := by
  obtain ⟨i0, hi0, hz0, hz1, hz2⟩ := info_parts infoEdge
  have h0 := Lib.hid h
  obtain ⟨hb, hb'⟩ := hyes
  have hn200 := (mayB_out hb).1
  have hb0 := Lib.hid hb
  have hb1 := Lib.hid hb'
  have hb2 := Lib.hid (one_hasB f t hb')
  clear h hb hb'
  have hN1 : New w (w.alloc (.cells #[.int .i64 f, .int .i64 t] 30)) := (New.refl w).alloc _
  obtain ⟨W1, hW1⟩ : ∃ W1, W1 = w.alloc (.cells #[.int .i64 f, .int .i64 t] 30) := ⟨_, rfl⟩
  rw [← hW1] at hN1
  have k0 : W1.cell? ⟨w.heap.size, 0, none⟩ = some (.int .i64 f) := by rw [hW1]; simp
  have k1 : W1.cell? ⟨w.heap.size, 1, none⟩ = some (.int .i64 t) := by rw [hW1]; simp
  go_enter Try.func24, Try.ntmps24
  go_wp2_with fail
  rw [← hW1]
  refine (May_any A n c F T _ (h0.out.new hN1)).mono ?_
  rw [hb0.out]
  rintro e w1 ⟨rfl, hn1⟩
  have hN2 := hN1.next hn1
  have j0 := (hn1.cell (lt_of_cell k0)).trans k0
  have j1 := (hn1.cell (lt_of_cell k1)).trans k1
  go_wp2_with fail
  refine (one_any f t _).mono ?_
  rw [decide_eq_true hb1.out]
  rintro e W ⟨rfl, hn2⟩
  have hN3 := Lib.hid (hN2.next hn2)
  have d0 := (hn2.cell (lt_of_cell j0)).trans j0
  have d1 := (hn2.cell (lt_of_cell j1)).trans j1
  clear hN1 hN2 hn1 hn2 j0 j1 k0 k1 hW1
  have hkeep : Hid (∀ w', New W w' → New W w' ∧ w'.cell? ⟨w.heap.size, 0, none⟩ = some (.int .i64 f) ∧ w'.cell? ⟨w.heap.size, 1, none⟩ = some (.int .i64 t)) := fun w' h => ⟨h, (h.cell (lt_of_cell d0)).trans d0, (h.cell (lt_of_cell d1)).trans d1⟩
  have hone : Hid (∀ u ∈ encE (edL (fun _ => f) (fun _ => t) (-1) 1), u.oneCell' = true) := encE_one _
  have hnl : Hid ((encE (edL (fun _ => f) (fun _ => t) (-1) 1)).length = 2 * 2) := (show _ = _ by rw [encE_len, edL_len])
  go_wp2_with fail
  go_region_held3 (fun w' => New W w' ∧ w'.cell? ⟨w.heap.size, 0, none⟩ = some (.int .i64 f) ∧ w'.cell? ⟨w.heap.size, 1, none⟩ = some (.int .i64 t))
    (first
      | exact hkeep.out _ (New.refl _).drew
      | assumption
      | exact hkeep.out _ ((And.left ‹New W _ ∧ _›).alloc _)
      | exact hkeep.out _ ((New.refl _).alloc _).drew
      | exact hkeep.out _ hn6
      | exact hkeep.out _ hn5
      | exact hkeep.out _ (New.next (And.left ‹New W _ ∧ _›) hnD)
      | exact hkeep.out _ (New.next (And.left ‹New W _ ∧ _›) hnC))
    (first
      | (go_at_call 42; (with_reducible refine (edges_any A n c 1 F T _ (h0.out.new (hN3.out.next (And.left ‹New W _ ∧ _›))) hn200 (.inl rfl)).mono ?_); rintro e wC ⟨v1, rfl, hownC, hnC⟩; have hown1 := own_mono hownC (And.left ‹New W _ ∧ _›).size; clear hownC; (try have hown2 := own_new hown2 hnC))
      | (go_at_call 42; refine (edges_any (some ⟨_, 0, none⟩) 1 1 (-1) (fun _ => f) (fun _ => t) _ (rd_one2 _ _ (by rfl) f t _) (by omega) (.inr rfl)).mono ?_; rintro e wD ⟨v2, rfl, hownD, hnD⟩; obtain ⟨A2, c2, rfl, hA2⟩ := slice_own hownD; obtain ⟨g2, rfl, _⟩ := hA2 (by omega); have hown2 := own_mono hownD (Nat.zero_le _); clear hownD hA2; (try have hown1 := own_new hown1 hnD); (try have hown1 := own_new (hown1.alloc _) hnD))
      | (go_at_call 42; refine (edges_any (some ⟨_, 0, none⟩) 1 1 (-1) (fun _ => f) (fun _ => t) _ ((rd_one2 _ _ (by rfl) f t _).new hnC) (by omega) (.inr rfl)).mono ?_; rintro e wD ⟨v2, rfl, hownD, hnD⟩; obtain ⟨A2, c2, rfl, hA2⟩ := slice_own hownD; obtain ⟨g2, rfl, _⟩ := hA2 (by omega); have hown2 := own_mono hownD (Nat.zero_le _); clear hownD hA2; (try have hown1 := own_new hown1 hnD); (try have hown1 := own_new (hown1.alloc _) hnD))
      | (go_at_call 42; refine (edges_any (some ⟨_, 0, none⟩) 1 1 (-1) (fun _ => f) (fun _ => t) _ (rd_one3 _ _ (by rfl) f t _) (by omega) (.inr rfl)).mono ?_; rintro e wD ⟨v2, rfl, hownD, hnD⟩; obtain ⟨A2, c2, rfl, hA2⟩ := slice_own hownD; obtain ⟨g2, rfl, _⟩ := hA2 (by omega); have hown2 := own_mono hownD (Nat.zero_le _); clear hownD hA2; (try have hown1 := own_new hown1 hnD); (try have hown1 := own_new (hown1.alloc _) hnD))
      | (go_at_call 42; refine (edges_any (some ⟨_, 0, none⟩) 1 1 (-1) (fun _ => f) (fun _ => t) _ ((rd_one3 _ _ (by rfl) f t _).new hnC) (by omega) (.inr rfl)).mono ?_; rintro e wD ⟨v2, rfl, hownD, hnD⟩; obtain ⟨A2, c2, rfl, hA2⟩ := slice_own hownD; obtain ⟨g2, rfl, _⟩ := hA2 (by omega); have hown2 := own_mono hownD (Nat.zero_le _); clear hownD hA2; (try have hown1 := own_new hown1 hnD); (try have hown1 := own_new (hown1.alloc _) hnD))
      | (refine step_append_lies _ (by rfl) _ _ 60 (by rfl) W.heap.size 84 i0 _ 2 16 Try.underlying60 hi0 hz0 hz1 hz2 rfl (by decide) v1 (2 * n) (encE (edL F T 1 n)) (by rfl) hown1 ⟨g2, 0, none⟩ 2 c2 (encE (edL (fun _ => f) (fun _ => t) (-1) 1)) (by rfl) hnl.out (hown2.cells rfl) hone.out (by omega) (by unfold maxLen; omega) (by omega) (And.left ‹New W _ ∧ _›).size _ rfl ?_; intro g5 c5 w5 hown5 hgrow5 hat5 hlt5; have hn5 : New W w5 := (And.left ‹New W _ ∧ _›).grown hgrow5 (fun g hg => (hown1.lt g hg).1); rw [← encE_append] at hown5; clear hgrow5 hat5 hlt5)
      | (go_at_call 41; refine (swept_any g5 c5 47 (2 * n + 2) (fun d => decide (0 < d)) (edL F T 1 n ++ edL (fun _ => f) (fun _ => t) (-1) 1) (ed_len _ _ _ _ _ _ _) W.heap.size _ enterCut1 (by omega) (by omega) hown5 (ed_bd hb0.out hb2.out (.inr rfl)) (ed_sum _ _ _ _ _ _ _) rfl (fun d w' => Cut1_any d w')).mono ?_; rintro e w6 ⟨⟨v6, R, rfl, hown6, hR1, hR2, hR3⟩, hgr6⟩; obtain ⟨A6, c6, rfl, _⟩ := slice_own hown6; have hn6 : New W w6 := hn5.grown1 hgr6 (hown5.lt _ rfl).1; obtain ⟨u, hu⟩ : ∃ u, Hid (u = if R.length ≤ 200 then Value.slice A6 R.length c6 else .slice none 0 0) := ⟨_, rfl⟩; obtain ⟨cd, hcd⟩ : ∃ cd : Int, Hid (cd = if R.length ≤ 200 then 0 else 8) := ⟨_, rfl⟩; have hans : Hid (SetAns (fun x => hasB n F T x && !hasB 1 (fun _ => f) (fun _ => t) x) w (.returned (.tuple #[u, .int .i64 cd])) w6) := SetAns.of hR2 (fun x => by rw [← cutP hb0.out hb2.out]; exact hR3 x) (by omega) (own_mono hown6 (hN3.out.next hn5).size) (hN3.out.next hn6) hu.out hcd.out; clear hR2 hR3 hgr6 hown6)
      | (go_at_call 40; refine (told_is A6 R.length c6 _ (by unfold maxLen; omega) u cd hu.out hcd.out).mono ?_; rintro e w7 ⟨rfl, rfl⟩))
  all_goals go_wp2
  all_goals go_ret2
  all_goals exact hans.out
end Go.Proofs.Ythkgcbjfgglciaa.spans
