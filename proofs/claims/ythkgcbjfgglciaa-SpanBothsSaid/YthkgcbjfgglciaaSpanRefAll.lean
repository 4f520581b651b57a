/-
  Contracts of the reference's SpanAdd, SpanCut and SpanBoth.
-/
import Derived.Test.YthkgcbjfgglciaaSpanEnds
import Derived.Test.YthkgcbjfgglciaaSpanThose
namespace Go.Proofs.Ythkgcbjfgglciaa.spans
open Go.ChangeShapes Go.WideShapes Go.ChangeAt Go.RowKit Go.Proofs.Ythkgcbjfgglciaa.kit Go.Proofs.Ythkgcbjfgglciaa.span Go.Deep
set_option linter.unusedVariables false
/-- what both texts answer: the list of the numbers that are so, or that it is too long -/
def SetAns (S : Int → Bool) (w : World) (e : Ending) (w' : World) : Prop :=
  (∃ (v : Value) (R : Rs), normR R ∧ (∀ x, S x = true ↔ inR R x) ∧ R.length ≤ 2000 ∧ w'.ownsRow w.heap.size 30 2 v R.length (encE R) ∧
      e = .returned (.tuple #[if R.length ≤ 200 then v else .slice none 0 0, .int .i64 (if R.length ≤ 200 then 0 else 8)])) ∧ New w w'
theorem one_hasB (f t : Int) (h : oneP f t) : mayB 1 (fun _ => f) (fun _ => t) = true := mayB_true (by omega) fun j hj => by
  have : j = 0 := by omega
  subst this
  exact ⟨h, .inl rfl⟩
theorem rd_one (w : World) (f t : Int) (T : TypeId) : Rd (w.alloc (.cells #[.int .i64 f, .int .i64 t] T)) (some ⟨w.heap.size, 0, none⟩) 1 (fun _ => f) (fun _ => t) :=
  ⟨by unfold maxLen; omega, fun _ => ⟨w.heap.size, 0, rfl, by simp, fun i hi => by
    have : i = 0 := by omega
    subst this
    constructor <;> simp⟩⟩
theorem rd_blk {w : World} {g : Nat} {f t : Int} {T : TypeId} (h : Blk w g T #[.int .i64 f, .int .i64 t]) : Rd w (some ⟨g, 0, none⟩) 1 (fun _ => f) (fun _ => t) :=
  ⟨by unfold maxLen; omega, fun _ => ⟨g, 0, rfl, h.lt, fun i hi => by
    have : i = 0 := by omega
    subst this
    have h0 := h.cell 0
    have h1 := h.cell 1
    simp at h0 h1
    exact ⟨by simpa using h0, by simpa using h1⟩⟩⟩
theorem own_plI {w : World} {base : Nat} {v : Value} {l : List Int} (h : w.ownsRow base 3 1 v l.length (intsL l)) (hl : l.length ≤ 800) :
    ∃ A c, v = .slice A l.length c ∧ RdI .i64 w A l.length (plOf l) := by
  obtain ⟨A, c, rfl, _, _, hA, hc⟩ := own_open h
  refine ⟨A, c, rfl, by unfold maxLen; omega, fun h0 => ?_⟩
  obtain ⟨g, rfl, _, hg⟩ := hA h0
  refine ⟨g, 0, rfl, hg, fun i hi => ?_⟩
  have := hc g rfl i _ (intsL_get l i hi)
  simpa [plOf] using this
theorem SpanAdd1_any (x : Int) (A B : Option Addr) (n c m d b1 b2 : Nat) (F T G U : Nat → Int) (w : World) (h1 : w.cell? ⟨b1, 0, none⟩ = some (.slice A n c)) (h2 : w.cell? ⟨b2, 0, none⟩ = some (.slice B m d)) (hA : Rd w A n F T) (hB : Rd w B m G U) :
    Calls Try.prog 46 #[.int .i64 x, .pointer (some ⟨b1, 0, none⟩), .pointer (some ⟨b2, 0, none⟩)] w fun e w' => e = .returned (.bool (hasB n F T x || hasB m G U x)) ∧ New w w' := by
  have hA0 := Lib.hid hA
  have hB0 := Lib.hid hB
  clear hA hB
  have g2 := lt_of_cell h2
  obtain ⟨r, hr⟩ : ∃ r, Hid (r = (hasB n F T x || hasB m G U x)) := ⟨_, rfl⟩
  rw [← hr.out]
  cases hb : hasB n F T x with
  | false =>
    have hb0 := Lib.hid hb
    clear hb
    go_enter Try.func46, Try.ntmps46
    go_wp2_with fail
    refine (SpanHas_any A n c F T x _ hA0.out).mono ?_
    rw [hb0.out]
    rintro e w1 ⟨rfl, hn1⟩
    have k2 := (hn1.cell g2).trans h2
    go_wp2_with fail
    refine (SpanHas_any B m d G U x _ (hB0.out.new hn1)).mono ?_
    rintro e w2 ⟨rfl, hn2⟩
    go_wp2
    go_ret
    exact ⟨retb (by rw [hr.out, hb0.out]; simp), hn1.next hn2⟩
  | true =>
    have hb0 := Lib.hid hb
    clear hb
    go_enter Try.func46, Try.ntmps46
    go_wp2_with fail
    refine (SpanHas_any A n c F T x _ hA0.out).mono ?_
    rw [hb0.out]
    rintro e w1 ⟨rfl, hn1⟩
    go_wp2
    go_ret
    exact ⟨retb (by rw [hr.out, hb0.out]; rfl), hn1⟩
set_option maxRecDepth 100000 in
theorem enterSpanAdd1 : ∀ (args : Array Value) (w : World), (callFunc 46 args).run Try.prog w = .ok (.enter 46 args) w := enter_of (fn := Try.f46) (by rfl) (by kernel_rfl) (by rfl)
theorem SpanCut1_any (x : Int) (A B : Option Addr) (n c m d b1 b2 : Nat) (F T G U : Nat → Int) (w : World) (h1 : w.cell? ⟨b1, 0, none⟩ = some (.slice A n c)) (h2 : w.cell? ⟨b2, 0, none⟩ = some (.slice B m d)) (hA : Rd w A n F T) (hB : Rd w B m G U) :
    Calls Try.prog 48 #[.int .i64 x, .pointer (some ⟨b1, 0, none⟩), .pointer (some ⟨b2, 0, none⟩)] w fun e w' => e = .returned (.bool (hasB n F T x && !hasB m G U x)) ∧ New w w' := by
  have hA0 := Lib.hid hA
  have hB0 := Lib.hid hB
  clear hA hB
  have g2 := lt_of_cell h2
  obtain ⟨r, hr⟩ : ∃ r, Hid (r = (hasB n F T x && !hasB m G U x)) := ⟨_, rfl⟩
  rw [← hr.out]
  cases hb : hasB n F T x with
  | false =>
    have hb0 := Lib.hid hb
    clear hb
    go_enter Try.func48, Try.ntmps48
    go_wp2_with fail
    refine (SpanHas_any A n c F T x _ hA0.out).mono ?_
    rw [hb0.out]
    rintro e w1 ⟨rfl, hn1⟩
    go_wp2
    go_ret
    exact ⟨retb (by rw [hr.out, hb0.out]; rfl), hn1⟩
  | true =>
    have hb0 := Lib.hid hb
    clear hb
    go_enter Try.func48, Try.ntmps48
    go_wp2_with fail
    refine (SpanHas_any A n c F T x _ hA0.out).mono ?_
    rw [hb0.out]
    rintro e w1 ⟨rfl, hn1⟩
    have k2 := (hn1.cell g2).trans h2
    go_wp2_with fail
    refine (SpanHas_any B m d G U x _ (hB0.out.new hn1)).mono ?_
    rintro e w2 ⟨rfl, hn2⟩
    go_wp2
    go_ret
    exact ⟨retb (by rw [hr.out, hb0.out]; simp), hn1.next hn2⟩
set_option maxRecDepth 100000 in
theorem enterSpanCut1 : ∀ (args : Array Value) (w : World), (callFunc 48 args).run Try.prog w = .ok (.enter 48 args) w := enter_of (fn := Try.f48) (by rfl) (by kernel_rfl) (by rfl)
theorem SpanBoth1_any (x : Int) (A B : Option Addr) (n c m d b1 b2 : Nat) (F T G U : Nat → Int) (w : World) (h1 : w.cell? ⟨b1, 0, none⟩ = some (.slice A n c)) (h2 : w.cell? ⟨b2, 0, none⟩ = some (.slice B m d)) (hA : Rd w A n F T) (hB : Rd w B m G U) :
    Calls Try.prog 50 #[.int .i64 x, .pointer (some ⟨b1, 0, none⟩), .pointer (some ⟨b2, 0, none⟩)] w fun e w' => e = .returned (.bool (hasB n F T x && hasB m G U x)) ∧ New w w' := by
  have hA0 := Lib.hid hA
  have hB0 := Lib.hid hB
  clear hA hB
  have g2 := lt_of_cell h2
  obtain ⟨r, hr⟩ : ∃ r, Hid (r = (hasB n F T x && hasB m G U x)) := ⟨_, rfl⟩
  rw [← hr.out]
  cases hb : hasB n F T x with
  | false =>
    have hb0 := Lib.hid hb
    clear hb
    go_enter Try.func50, Try.ntmps50
    go_wp2_with fail
    refine (SpanHas_any A n c F T x _ hA0.out).mono ?_
    rw [hb0.out]
    rintro e w1 ⟨rfl, hn1⟩
    go_wp2
    go_ret
    exact ⟨retb (by rw [hr.out, hb0.out]; rfl), hn1⟩
  | true =>
    have hb0 := Lib.hid hb
    clear hb
    go_enter Try.func50, Try.ntmps50
    go_wp2_with fail
    refine (SpanHas_any A n c F T x _ hA0.out).mono ?_
    rw [hb0.out]
    rintro e w1 ⟨rfl, hn1⟩
    have k2 := (hn1.cell g2).trans h2
    go_wp2_with fail
    refine (SpanHas_any B m d G U x _ (hB0.out.new hn1)).mono ?_
    rintro e w2 ⟨rfl, hn2⟩
    go_wp2
    go_ret
    exact ⟨retb (by rw [hr.out, hb0.out]; simp), hn1.next hn2⟩
set_option maxRecDepth 100000 in
theorem enterSpanBoth1 : ∀ (args : Array Value) (w : World), (callFunc 50 args).run Try.prog w = .ok (.enter 50 args) w := enter_of (fn := Try.f50) (by rfl) (by kernel_rfl) (by rfl)
set_option maxRecDepth 100000 in
theorem SpanAdd_bad (A : Option Addr) (n c : Nat) (F T : Nat → Int) (f t : Int) (w : World) (h : Rd w A n F T) (hno : ¬ (mayB n F T = true ∧ oneP f t)) :
    Calls Try.prog 22 #[.slice A n c, .agg #[.int .i64 f, .int .i64 t]] w fun e w' => e = .returned (.tuple #[.slice none 0 0, .int .i64 4]) ∧ New w w' := by
  have h0 := Lib.hid h
  have hno0 := Lib.hid hno
  clear h hno
  have hN1 : New w ((w.alloc (.cells #[.slice A n c] 22)).alloc (.cells #[.int .i64 f, .int .i64 t] 30)) := ((New.refl w).alloc _).alloc _
  obtain ⟨W1, hW1⟩ : ∃ W1, W1 = (w.alloc (.cells #[.slice A n c] 22)).alloc (.cells #[.int .i64 f, .int .i64 t] 30) := ⟨_, rfl⟩
  rw [← hW1] at hN1
  have k0 : W1.cell? ⟨w.heap.size + 1, 0, none⟩ = some (.int .i64 f) := by rw [hW1]; simp
  have k1 : W1.cell? ⟨w.heap.size + 1, 1, none⟩ = some (.int .i64 t) := by rw [hW1]; simp
  go_enter Try.func22, Try.ntmps22
  go_wp2_with fail
  rw [← hW1]
  refine (SpanMay_any A n c F T _ (h0.out.new hN1)).mono ?_
  cases hb : mayB n F T with
  | false =>
    rintro e w1 ⟨rfl, hn1⟩
    clear hb
    go_wp2
    go_ret2
    exact ⟨rfl, hN1.next hn1⟩
  | true =>
    rintro e w1 ⟨rfl, hn1⟩
    have hb0 := Lib.hid hb
    clear hb
    have j0 := (hn1.cell (lt_of_cell k0)).trans k0
    have j1 := (hn1.cell (lt_of_cell k1)).trans k1
    have hno2 : decide (oneP f t) = false := decide_eq_false fun h2 => hno0.out ⟨hb0.out, h2⟩
    have hno3 := Lib.hid hno2
    clear hno2
    go_wp2_with fail
    refine (RangeMay_any f t _).mono ?_
    rw [hno3.out]
    rintro e w2 ⟨rfl, hn2⟩
    go_wp2
    go_ret2
    exact ⟨rfl, (hN1.next hn1).next hn2⟩
set_option maxRecDepth 100000 in
set_option maxHeartbeats 1000000 in
theorem SpanAdd_ok (A : Option Addr) (n c : Nat) (F T : Nat → Int) (f t : Int) (w : World) (h : Rd w A n F T) (hyes : mayB n F T = true ∧ oneP f t) :
    Calls Try.prog 22 #[.slice A n c, .agg #[.int .i64 f, .int .i64 t]] w (SetAns (fun x => hasB n F T x || hasB 1 (fun _ => f) (fun _ => t) x) w) := by
  have h0 := Lib.hid h
  obtain ⟨hb, hb'⟩ := hyes
  have hb0 := Lib.hid hb
  have hb1 := Lib.hid hb'
  clear h hb hb'
  have hN1 : New w ((w.alloc (.cells #[.slice A n c] 22)).alloc (.cells #[.int .i64 f, .int .i64 t] 30)) := ((New.refl w).alloc _).alloc _
  obtain ⟨W1, hW1⟩ : ∃ W1, W1 = (w.alloc (.cells #[.slice A n c] 22)).alloc (.cells #[.int .i64 f, .int .i64 t] 30) := ⟨_, rfl⟩
  rw [← hW1] at hN1
  have k9 : W1.cell? ⟨w.heap.size, 0, none⟩ = some (.slice A n c) := by rw [hW1]; simp
  have k0 : W1.cell? ⟨w.heap.size + 1, 0, none⟩ = some (.int .i64 f) := by rw [hW1]; simp
  have k1 : W1.cell? ⟨w.heap.size + 1, 1, none⟩ = some (.int .i64 t) := by rw [hW1]; simp
  go_enter Try.func22, Try.ntmps22
  go_wp2_with fail
  rw [← hW1]
  refine (SpanMay_any A n c F T _ (h0.out.new hN1)).mono ?_
  rw [hb0.out]
  rintro e w1 ⟨rfl, hn1⟩
  have hN2 := hN1.next hn1
  have j9 := (hn1.cell (lt_of_cell k9)).trans k9
  have j0 := (hn1.cell (lt_of_cell k0)).trans k0
  have j1 := (hn1.cell (lt_of_cell k1)).trans k1
  go_wp2_with fail
  refine (RangeMay_any f t _).mono ?_
  rw [decide_eq_true hb1.out]
  rintro e w2 ⟨rfl, hn2⟩
  have hN3 := hN2.next hn2
  have i9 := (hn2.cell (lt_of_cell j9)).trans j9
  have i0 := (hn2.cell (lt_of_cell j0)).trans j0
  have i1 := (hn2.cell (lt_of_cell j1)).trans j1
  have hsz : w.heap.size + 1 < w2.heap.size := lt_of_cell i0
  have q9 : ((w2.alloc (.cells #[.int .i64 f, .int .i64 t] 30)).alloc (.cells #[.slice (some ⟨w2.heap.size, 0, none⟩) 1 1] 22)).cell? ⟨w.heap.size, 0, none⟩ = some (.slice A n c) := ((((New.refl w2).alloc _).alloc _).cell (lt_of_cell i9)).trans i9
  clear j0 j1 j9 hW1 k9 k0 k1
  go_wp2_with fail
  clear q9
  obtain ⟨W3, hW3⟩ : ∃ W3, W3 = ((w2.alloc (.cells #[.int .i64 f, .int .i64 t] 30)).alloc (.cells #[.slice (some ⟨w2.heap.size, 0, none⟩) 1 1] 22)).alloc (.cells #[.slice A n c, .slice (some ⟨w2.heap.size, 0, none⟩) 1 1] 22) := ⟨_, rfl⟩
  have hb6 : Blk W3 (w2.heap.size + 2) 22 #[.slice A n c, .slice (some ⟨w2.heap.size, 0, none⟩) 1 1] := by
    have := Blk.fresh ((w2.alloc (.cells #[.int .i64 f, .int .i64 t] 30)).alloc (.cells #[.slice (some ⟨w2.heap.size, 0, none⟩) 1 1] 22)) 22 #[.slice A n c, .slice (some ⟨w2.heap.size, 0, none⟩) 1 1]
    rw [hW3]
    simpa using this
  have hA3 : ∀ a, a < 2 → W3.cell? ⟨w2.heap.size + 2, a, none⟩ = some (.slice (if a = 0 then A else some ⟨w2.heap.size, 0, none⟩) (if a = 0 then n else 1) (if a = 0 then c else 1)) := fun a ha => by
    have := hb6.cell a
    match a, ha with
    | 0, _ => simpa using this
    | 1, _ => simpa using this
  have hN4 : New w W3 := by rw [hW3]; exact ((hN3.alloc _).alloc _).alloc _
  have hb4 : Blk W3 w2.heap.size 30 #[.int .i64 f, .int .i64 t] := by rw [hW3]; exact ((Blk.fresh w2 _ _).alloc _).alloc _
  have g9 : W3.cell? ⟨w.heap.size, 0, none⟩ = some (.slice A n c) := by rw [hW3]; exact (((((New.refl w2).alloc _).alloc _).alloc _).cell (lt_of_cell i9)).trans i9
  have hb5 : Blk W3 (w2.heap.size + 1) 22 #[.slice (some ⟨w2.heap.size, 0, none⟩) 1 1] := by
    have := (Blk.fresh (w2.alloc (.cells #[.int .i64 f, .int .i64 t] 30)) 22 #[.slice (some ⟨w2.heap.size, 0, none⟩) 1 1]).alloc (.cells #[.slice A n c, .slice (some ⟨w2.heap.size, 0, none⟩) 1 1] 22)
    rw [hW3]
    simpa using this
  have g1 : W3.cell? ⟨w2.heap.size + 1, 0, none⟩ = some (.slice (some ⟨w2.heap.size, 0, none⟩) 1 1) := by have := hb5.cell 0; simpa using this
  have hR3 : ∀ a, a < 2 → Rd W3 (if a = 0 then A else some ⟨w2.heap.size, 0, none⟩) (if a = 0 then n else 1) (if a = 0 then F else fun _ => f) (if a = 0 then T else fun _ => t) ∧ (if a = 0 then n else 1) ≤ 200 := fun a ha => by
    match a, ha with
    | 0, _ => exact ⟨h0.out.new hN4, (mayB_out hb0.out).1⟩
    | 1, _ => exact ⟨rd_blk hb4, (show 1 ≤ 200 by omega)⟩
  have hg3 : w2.heap.size + 2 < W3.heap.size := hb6.lt
  rw [← hW3]
  generalize hG : w2.heap.size = G0 at *
  clear hW3
  refine (ends_any (G0 + 2) 2 _ _ _ _ _ W3 hg3 hA3 hR3).mono ?_
  rintro e w4 ⟨⟨v4, l, rfl, hown4, hup4, hl4, hend4⟩, hn4⟩
  obtain ⟨A4, c4, rfl, hrd4⟩ := own_plI hown4 hl4
  have hpl := pl_of (n := n) (m := 1) (F := F) (T := T) (G := fun _ => f) (U := fun _ => t) (fun a b => a || b) rfl hup4 (show endsIn n F T l from hend4 0 (by omega)) (show endsIn 1 (fun _ => f) (fun _ => t) l from hend4 1 (by omega))
  have hN5 := hN4.next hn4
  have hsz4 : G0 + 1 < w4.heap.size := Nat.lt_of_lt_of_le (lt_of_cell g1) hn4.size
  have hsz5 : w.heap.size < w4.heap.size := Nat.lt_of_lt_of_le (lt_of_cell g9) hn4.size
  have e9 := (hn4.cell (lt_of_cell g9)).trans g9
  have e1 := (hn4.cell (lt_of_cell g1)).trans g1
  have e4 := hb4.new hn4
  replace hpl := Lib.hid hpl
  replace hrd4 := Lib.hid hrd4
  replace e9 := Lib.hid e9
  replace e1 := Lib.hid e1
  replace e4 := Lib.hid e4
  clear hA3 hR3 hend4 hown4 hG hb4
  generalize hL : l.length = L at *
  go_wp2_with fail
  refine (those_any A4 L c4 46 #[.pointer (some ⟨w.heap.size, 0, none⟩), .pointer (some ⟨G0 + 1, 0, none⟩)] (fun x => hasB n F T x || hasB 1 (fun _ => f) (fun _ => t) x) (plOf l) w4 enterSpanAdd1 hrd4.out (by omega) hpl.out (fun x w5 hn5 => ?hF)).mono ?_
  case hF =>
    exact SpanAdd1_any x A _ n c 1 1 _ _ F T _ _ w5 ((hn5.cell (lt_of_cell e9.out)).trans e9.out) ((hn5.cell (lt_of_cell e1.out)).trans e1.out) (h0.out.new (hN5.next hn5)) ((rd_blk e4.out).new hn5)
  rintro e w6 ⟨⟨v6, R, hR1, hR2, hR3, hown6, rfl⟩, hn6⟩
  obtain ⟨u, hu⟩ : ∃ u, u = if R.length ≤ 200 then v6 else .slice none 0 0 := ⟨_, rfl⟩
  obtain ⟨cd, hcd⟩ : ∃ cd : Int, cd = if R.length ≤ 200 then 0 else 8 := ⟨_, rfl⟩
  rw [← hu, ← hcd]
  have hans : SetAns (fun x => hasB n F T x || hasB 1 (fun _ => f) (fun _ => t) x) w (.returned (.tuple #[u, .int .i64 cd])) w6 := ⟨⟨v6, R, hR1, hR2, by omega, own_mono hown6 hN5.size, by rw [hu, hcd]⟩, hN5.next hn6⟩
  replace hans := Lib.hid hans
  clear hR1 hR2 hR3 hown6 hu hcd
  go_wp2
  go_ret2
  exact hans.out
set_option maxRecDepth 100000 in
theorem SpanCut_bad (A : Option Addr) (n c : Nat) (F T : Nat → Int) (f t : Int) (w : World) (h : Rd w A n F T) (hno : ¬ (mayB n F T = true ∧ oneP f t)) :
    Calls Try.prog 25 #[.slice A n c, .agg #[.int .i64 f, .int .i64 t]] w fun e w' => e = .returned (.tuple #[.slice none 0 0, .int .i64 4]) ∧ New w w' := by
  have h0 := Lib.hid h
  have hno0 := Lib.hid hno
  clear h hno
  have hN1 : New w ((w.alloc (.cells #[.slice A n c] 22)).alloc (.cells #[.int .i64 f, .int .i64 t] 30)) := ((New.refl w).alloc _).alloc _
  obtain ⟨W1, hW1⟩ : ∃ W1, W1 = (w.alloc (.cells #[.slice A n c] 22)).alloc (.cells #[.int .i64 f, .int .i64 t] 30) := ⟨_, rfl⟩
  rw [← hW1] at hN1
  have k0 : W1.cell? ⟨w.heap.size + 1, 0, none⟩ = some (.int .i64 f) := by rw [hW1]; simp
  have k1 : W1.cell? ⟨w.heap.size + 1, 1, none⟩ = some (.int .i64 t) := by rw [hW1]; simp
  go_enter Try.func25, Try.ntmps25
  go_wp2_with fail
  rw [← hW1]
  refine (SpanMay_any A n c F T _ (h0.out.new hN1)).mono ?_
  cases hb : mayB n F T with
  | false =>
    rintro e w1 ⟨rfl, hn1⟩
    clear hb
    go_wp2
    go_ret2
    exact ⟨rfl, hN1.next hn1⟩
  | true =>
    rintro e w1 ⟨rfl, hn1⟩
    have hb0 := Lib.hid hb
    clear hb
    have j0 := (hn1.cell (lt_of_cell k0)).trans k0
    have j1 := (hn1.cell (lt_of_cell k1)).trans k1
    have hno2 : decide (oneP f t) = false := decide_eq_false fun h2 => hno0.out ⟨hb0.out, h2⟩
    have hno3 := Lib.hid hno2
    clear hno2
    go_wp2_with fail
    refine (RangeMay_any f t _).mono ?_
    rw [hno3.out]
    rintro e w2 ⟨rfl, hn2⟩
    go_wp2
    go_ret2
    exact ⟨rfl, (hN1.next hn1).next hn2⟩
set_option maxRecDepth 100000 in
set_option maxHeartbeats 1000000 in
theorem SpanCut_ok (A : Option Addr) (n c : Nat) (F T : Nat → Int) (f t : Int) (w : World) (h : Rd w A n F T) (hyes : mayB n F T = true ∧ oneP f t) :
    Calls Try.prog 25 #[.slice A n c, .agg #[.int .i64 f, .int .i64 t]] w (SetAns (fun x => hasB n F T x && !hasB 1 (fun _ => f) (fun _ => t) x) w) := by
  have h0 := Lib.hid h
  obtain ⟨hb, hb'⟩ := hyes
  have hb0 := Lib.hid hb
  have hb1 := Lib.hid hb'
  clear h hb hb'
  have hN1 : New w ((w.alloc (.cells #[.slice A n c] 22)).alloc (.cells #[.int .i64 f, .int .i64 t] 30)) := ((New.refl w).alloc _).alloc _
  obtain ⟨W1, hW1⟩ : ∃ W1, W1 = (w.alloc (.cells #[.slice A n c] 22)).alloc (.cells #[.int .i64 f, .int .i64 t] 30) := ⟨_, rfl⟩
  rw [← hW1] at hN1
  have k9 : W1.cell? ⟨w.heap.size, 0, none⟩ = some (.slice A n c) := by rw [hW1]; simp
  have k0 : W1.cell? ⟨w.heap.size + 1, 0, none⟩ = some (.int .i64 f) := by rw [hW1]; simp
  have k1 : W1.cell? ⟨w.heap.size + 1, 1, none⟩ = some (.int .i64 t) := by rw [hW1]; simp
  go_enter Try.func25, Try.ntmps25
  go_wp2_with fail
  rw [← hW1]
  refine (SpanMay_any A n c F T _ (h0.out.new hN1)).mono ?_
  rw [hb0.out]
  rintro e w1 ⟨rfl, hn1⟩
  have hN2 := hN1.next hn1
  have j9 := (hn1.cell (lt_of_cell k9)).trans k9
  have j0 := (hn1.cell (lt_of_cell k0)).trans k0
  have j1 := (hn1.cell (lt_of_cell k1)).trans k1
  go_wp2_with fail
  refine (RangeMay_any f t _).mono ?_
  rw [decide_eq_true hb1.out]
  rintro e w2 ⟨rfl, hn2⟩
  have hN3 := hN2.next hn2
  have i9 := (hn2.cell (lt_of_cell j9)).trans j9
  have i0 := (hn2.cell (lt_of_cell j0)).trans j0
  have i1 := (hn2.cell (lt_of_cell j1)).trans j1
  have hsz : w.heap.size + 1 < w2.heap.size := lt_of_cell i0
  have q9 : ((w2.alloc (.cells #[.int .i64 f, .int .i64 t] 30)).alloc (.cells #[.slice (some ⟨w2.heap.size, 0, none⟩) 1 1] 22)).cell? ⟨w.heap.size, 0, none⟩ = some (.slice A n c) := ((((New.refl w2).alloc _).alloc _).cell (lt_of_cell i9)).trans i9
  clear j0 j1 j9 hW1 k9 k0 k1
  go_wp2_with fail
  clear q9
  obtain ⟨W3, hW3⟩ : ∃ W3, W3 = ((w2.alloc (.cells #[.int .i64 f, .int .i64 t] 30)).alloc (.cells #[.slice (some ⟨w2.heap.size, 0, none⟩) 1 1] 22)).alloc (.cells #[.slice A n c, .slice (some ⟨w2.heap.size, 0, none⟩) 1 1] 22) := ⟨_, rfl⟩
  have hb6 : Blk W3 (w2.heap.size + 2) 22 #[.slice A n c, .slice (some ⟨w2.heap.size, 0, none⟩) 1 1] := by
    have := Blk.fresh ((w2.alloc (.cells #[.int .i64 f, .int .i64 t] 30)).alloc (.cells #[.slice (some ⟨w2.heap.size, 0, none⟩) 1 1] 22)) 22 #[.slice A n c, .slice (some ⟨w2.heap.size, 0, none⟩) 1 1]
    rw [hW3]
    simpa using this
  have hA3 : ∀ a, a < 2 → W3.cell? ⟨w2.heap.size + 2, a, none⟩ = some (.slice (if a = 0 then A else some ⟨w2.heap.size, 0, none⟩) (if a = 0 then n else 1) (if a = 0 then c else 1)) := fun a ha => by
    have := hb6.cell a
    match a, ha with
    | 0, _ => simpa using this
    | 1, _ => simpa using this
  have hN4 : New w W3 := by rw [hW3]; exact ((hN3.alloc _).alloc _).alloc _
  have hb4 : Blk W3 w2.heap.size 30 #[.int .i64 f, .int .i64 t] := by rw [hW3]; exact ((Blk.fresh w2 _ _).alloc _).alloc _
  have g9 : W3.cell? ⟨w.heap.size, 0, none⟩ = some (.slice A n c) := by rw [hW3]; exact (((((New.refl w2).alloc _).alloc _).alloc _).cell (lt_of_cell i9)).trans i9
  have hb5 : Blk W3 (w2.heap.size + 1) 22 #[.slice (some ⟨w2.heap.size, 0, none⟩) 1 1] := by
    have := (Blk.fresh (w2.alloc (.cells #[.int .i64 f, .int .i64 t] 30)) 22 #[.slice (some ⟨w2.heap.size, 0, none⟩) 1 1]).alloc (.cells #[.slice A n c, .slice (some ⟨w2.heap.size, 0, none⟩) 1 1] 22)
    rw [hW3]
    simpa using this
  have g1 : W3.cell? ⟨w2.heap.size + 1, 0, none⟩ = some (.slice (some ⟨w2.heap.size, 0, none⟩) 1 1) := by have := hb5.cell 0; simpa using this
  have hR3 : ∀ a, a < 2 → Rd W3 (if a = 0 then A else some ⟨w2.heap.size, 0, none⟩) (if a = 0 then n else 1) (if a = 0 then F else fun _ => f) (if a = 0 then T else fun _ => t) ∧ (if a = 0 then n else 1) ≤ 200 := fun a ha => by
    match a, ha with
    | 0, _ => exact ⟨h0.out.new hN4, (mayB_out hb0.out).1⟩
    | 1, _ => exact ⟨rd_blk hb4, (show 1 ≤ 200 by omega)⟩
  have hg3 : w2.heap.size + 2 < W3.heap.size := hb6.lt
  rw [← hW3]
  generalize hG : w2.heap.size = G0 at *
  clear hW3
  refine (ends_any (G0 + 2) 2 _ _ _ _ _ W3 hg3 hA3 hR3).mono ?_
  rintro e w4 ⟨⟨v4, l, rfl, hown4, hup4, hl4, hend4⟩, hn4⟩
  obtain ⟨A4, c4, rfl, hrd4⟩ := own_plI hown4 hl4
  have hpl := pl_of (n := n) (m := 1) (F := F) (T := T) (G := fun _ => f) (U := fun _ => t) (fun a b => a && !b) rfl hup4 (show endsIn n F T l from hend4 0 (by omega)) (show endsIn 1 (fun _ => f) (fun _ => t) l from hend4 1 (by omega))
  have hN5 := hN4.next hn4
  have hsz4 : G0 + 1 < w4.heap.size := Nat.lt_of_lt_of_le (lt_of_cell g1) hn4.size
  have hsz5 : w.heap.size < w4.heap.size := Nat.lt_of_lt_of_le (lt_of_cell g9) hn4.size
  have e9 := (hn4.cell (lt_of_cell g9)).trans g9
  have e1 := (hn4.cell (lt_of_cell g1)).trans g1
  have e4 := hb4.new hn4
  replace hpl := Lib.hid hpl
  replace hrd4 := Lib.hid hrd4
  replace e9 := Lib.hid e9
  replace e1 := Lib.hid e1
  replace e4 := Lib.hid e4
  clear hA3 hR3 hend4 hown4 hG hb4
  generalize hL : l.length = L at *
  go_wp2_with fail
  refine (those_any A4 L c4 48 #[.pointer (some ⟨w.heap.size, 0, none⟩), .pointer (some ⟨G0 + 1, 0, none⟩)] (fun x => hasB n F T x && !hasB 1 (fun _ => f) (fun _ => t) x) (plOf l) w4 enterSpanCut1 hrd4.out (by omega) hpl.out (fun x w5 hn5 => ?hF)).mono ?_
  case hF =>
    exact SpanCut1_any x A _ n c 1 1 _ _ F T _ _ w5 ((hn5.cell (lt_of_cell e9.out)).trans e9.out) ((hn5.cell (lt_of_cell e1.out)).trans e1.out) (h0.out.new (hN5.next hn5)) ((rd_blk e4.out).new hn5)
  rintro e w6 ⟨⟨v6, R, hR1, hR2, hR3, hown6, rfl⟩, hn6⟩
  obtain ⟨u, hu⟩ : ∃ u, u = if R.length ≤ 200 then v6 else .slice none 0 0 := ⟨_, rfl⟩
  obtain ⟨cd, hcd⟩ : ∃ cd : Int, cd = if R.length ≤ 200 then 0 else 8 := ⟨_, rfl⟩
  rw [← hu, ← hcd]
  have hans : SetAns (fun x => hasB n F T x && !hasB 1 (fun _ => f) (fun _ => t) x) w (.returned (.tuple #[u, .int .i64 cd])) w6 := ⟨⟨v6, R, hR1, hR2, by omega, own_mono hown6 hN5.size, by rw [hu, hcd]⟩, hN5.next hn6⟩
  replace hans := Lib.hid hans
  clear hR1 hR2 hR3 hown6 hu hcd
  go_wp2
  go_ret2
  exact hans.out
set_option maxRecDepth 100000 in
theorem SpanBoth_bad (A B : Option Addr) (n c m d : Nat) (F T G U : Nat → Int) (w : World) (h : Rd w A n F T) (hB : Rd w B m G U) (hno : ¬ (mayB n F T = true ∧ mayB m G U = true)) :
    Calls Try.prog 27 #[.slice A n c, .slice B m d] w fun e w' => e = .returned (.tuple #[.slice none 0 0, .int .i64 4]) ∧ New w w' := by
  have h0 := Lib.hid h
  have hno0 := Lib.hid hno
  clear h hno
  have hN1 : New w ((w.alloc (.cells #[.slice A n c] 22)).alloc (.cells #[.slice B m d] 22)) := ((New.refl w).alloc _).alloc _
  obtain ⟨W1, hW1⟩ : ∃ W1, W1 = (w.alloc (.cells #[.slice A n c] 22)).alloc (.cells #[.slice B m d] 22) := ⟨_, rfl⟩
  rw [← hW1] at hN1
  have hB0 := Lib.hid hB
  clear hB
  have k0 : W1.cell? ⟨w.heap.size + 1, 0, none⟩ = some (.slice B m d) := by rw [hW1]; simp
  go_enter Try.func27, Try.ntmps27
  go_wp2_with fail
  rw [← hW1]
  refine (SpanMay_any A n c F T _ (h0.out.new hN1)).mono ?_
  cases hb : mayB n F T with
  | false =>
    rintro e w1 ⟨rfl, hn1⟩
    clear hb
    go_wp2
    go_ret2
    exact ⟨rfl, hN1.next hn1⟩
  | true =>
    rintro e w1 ⟨rfl, hn1⟩
    have hb0 := Lib.hid hb
    clear hb
    have j0 := (hn1.cell (lt_of_cell k0)).trans k0
    have hno2 : mayB m G U = false := by
      cases hb2 : mayB m G U with
      | false => rfl
      | true => exact absurd ⟨hb0.out, hb2⟩ hno0.out
    have hno3 := Lib.hid hno2
    clear hno2
    go_wp2_with fail
    refine (SpanMay_any B m d G U _ (hB0.out.new (hN1.next hn1))).mono ?_
    rw [hno3.out]
    rintro e w2 ⟨rfl, hn2⟩
    go_wp2
    go_ret2
    exact ⟨rfl, (hN1.next hn1).next hn2⟩
set_option maxRecDepth 100000 in
set_option maxHeartbeats 1000000 in
theorem SpanBoth_ok (A B : Option Addr) (n c m d : Nat) (F T G U : Nat → Int) (w : World) (h : Rd w A n F T) (hB : Rd w B m G U) (hyes : mayB n F T = true ∧ mayB m G U = true) :
    Calls Try.prog 27 #[.slice A n c, .slice B m d] w (SetAns (fun x => hasB n F T x && hasB m G U x) w) := by
  have h0 := Lib.hid h
  obtain ⟨hb, hb'⟩ := hyes
  have hb0 := Lib.hid hb
  have hb1 := Lib.hid hb'
  clear h hb hb'
  have hN1 : New w ((w.alloc (.cells #[.slice A n c] 22)).alloc (.cells #[.slice B m d] 22)) := ((New.refl w).alloc _).alloc _
  obtain ⟨W1, hW1⟩ : ∃ W1, W1 = (w.alloc (.cells #[.slice A n c] 22)).alloc (.cells #[.slice B m d] 22) := ⟨_, rfl⟩
  rw [← hW1] at hN1
  have k9 : W1.cell? ⟨w.heap.size, 0, none⟩ = some (.slice A n c) := by rw [hW1]; simp
  have hB0 := Lib.hid hB
  clear hB
  have k0 : W1.cell? ⟨w.heap.size + 1, 0, none⟩ = some (.slice B m d) := by rw [hW1]; simp
  go_enter Try.func27, Try.ntmps27
  go_wp2_with fail
  rw [← hW1]
  refine (SpanMay_any A n c F T _ (h0.out.new hN1)).mono ?_
  rw [hb0.out]
  rintro e w1 ⟨rfl, hn1⟩
  have hN2 := hN1.next hn1
  have j9 := (hn1.cell (lt_of_cell k9)).trans k9
  have j0 := (hn1.cell (lt_of_cell k0)).trans k0
  go_wp2_with fail
  refine (SpanMay_any B m d G U _ (hB0.out.new hN2)).mono ?_
  rw [hb1.out]
  rintro e w2 ⟨rfl, hn2⟩
  have hN3 := hN2.next hn2
  have i9 := (hn2.cell (lt_of_cell j9)).trans j9
  have i0 := (hn2.cell (lt_of_cell j0)).trans j0
  have hsz : w.heap.size + 1 < w2.heap.size := lt_of_cell i0
  clear j0 j9 hW1 k9 k0
  go_wp2_with fail
  obtain ⟨W3, hW3⟩ : ∃ W3, W3 = w2.alloc (.cells #[.slice A n c, .slice B m d] 22) := ⟨_, rfl⟩
  have hA3 : ∀ a, a < 2 → W3.cell? ⟨w2.heap.size, a, none⟩ = some (.slice (if a = 0 then A else B) (if a = 0 then n else m) (if a = 0 then c else d)) := fun a ha => by
    rw [hW3]
    match a, ha with
    | 0, _ => simp
    | 1, _ => simp
  have hN4 : New w W3 := by rw [hW3]; exact hN3.alloc _
  have g9 : W3.cell? ⟨w.heap.size, 0, none⟩ = some (.slice A n c) := by rw [hW3]; exact (((New.refl w2).alloc _).cell (lt_of_cell i9)).trans i9
  have g1 : W3.cell? ⟨w.heap.size + 1, 0, none⟩ = some (.slice B m d) := by rw [hW3]; exact (((New.refl w2).alloc _).cell (lt_of_cell i0)).trans i0
  have hR3 : ∀ a, a < 2 → Rd W3 (if a = 0 then A else B) (if a = 0 then n else m) (if a = 0 then F else G) (if a = 0 then T else U) ∧ (if a = 0 then n else m) ≤ 200 := fun a ha => by
    match a, ha with
    | 0, _ => exact ⟨h0.out.new hN4, (mayB_out hb0.out).1⟩
    | 1, _ => exact ⟨hB0.out.new hN4, (mayB_out hb1.out).1⟩
  have hg3 : w2.heap.size < W3.heap.size := by rw [hW3]; simp
  rw [← hW3]
  generalize hG : w2.heap.size = G0 at *
  clear hW3
  refine (ends_any G0 2 _ _ _ _ _ W3 hg3 hA3 hR3).mono ?_
  rintro e w4 ⟨⟨v4, l, rfl, hown4, hup4, hl4, hend4⟩, hn4⟩
  obtain ⟨A4, c4, rfl, hrd4⟩ := own_plI hown4 hl4
  have hpl := pl_of (n := n) (m := m) (F := F) (T := T) (G := G) (U := U) (fun a b => a && b) rfl hup4 (show endsIn n F T l from hend4 0 (by omega)) (show endsIn m G U l from hend4 1 (by omega))
  have hN5 := hN4.next hn4
  have hsz4 : w.heap.size + 1 < w4.heap.size := Nat.lt_of_lt_of_le (lt_of_cell g1) hn4.size
  have e9 := (hn4.cell (lt_of_cell g9)).trans g9
  have e1 := (hn4.cell (lt_of_cell g1)).trans g1
  replace hpl := Lib.hid hpl
  replace hrd4 := Lib.hid hrd4
  replace e9 := Lib.hid e9
  replace e1 := Lib.hid e1
  clear hA3 hR3 hend4 hown4 hG
  generalize hL : l.length = L at *
  go_wp2_with fail
  refine (those_any A4 L c4 50 #[.pointer (some ⟨w.heap.size, 0, none⟩), .pointer (some ⟨w.heap.size + 1, 0, none⟩)] (fun x => hasB n F T x && hasB m G U x) (plOf l) w4 enterSpanBoth1 hrd4.out (by omega) hpl.out (fun x w5 hn5 => ?hF)).mono ?_
  case hF =>
    exact SpanBoth1_any x A B n c m d _ _ F T G U w5 ((hn5.cell (lt_of_cell e9.out)).trans e9.out) ((hn5.cell (lt_of_cell e1.out)).trans e1.out) (h0.out.new (hN5.next hn5)) (hB0.out.new (hN5.next hn5))
  rintro e w6 ⟨⟨v6, R, hR1, hR2, hR3, hown6, rfl⟩, hn6⟩
  obtain ⟨u, hu⟩ : ∃ u, u = if R.length ≤ 200 then v6 else .slice none 0 0 := ⟨_, rfl⟩
  obtain ⟨cd, hcd⟩ : ∃ cd : Int, cd = if R.length ≤ 200 then 0 else 8 := ⟨_, rfl⟩
  rw [← hu, ← hcd]
  have hans : SetAns (fun x => hasB n F T x && hasB m G U x) w (.returned (.tuple #[u, .int .i64 cd])) w6 := ⟨⟨v6, R, hR1, hR2, by omega, own_mono hown6 hN5.size, by rw [hu, hcd]⟩, hN5.next hn6⟩
  replace hans := Lib.hid hans
  clear hR1 hR2 hR3 hown6 hu hcd
  go_wp2
  go_ret2
  exact hans.out
end Go.Proofs.Ythkgcbjfgglciaa.spans
