/-
  Contracts of span.Size, span.First and of the reference's SpanSize, SpanFirst.
-/
import Derived.Test.YthkgcbjfgglciaaSpanRead
namespace Go.Proofs.Ythkgcbjfgglciaa.span
open Go.ChangeShapes Go.WideShapes Go.ChangeAt Go.RowKit Go.Proofs.Ythkgcbjfgglciaa.kit

def sumF (F T : Nat → Int) : Nat → Int
  | 0 => 0
  | k + 1 => sumF F T k + (T k - F k)
def sizeF (n : Nat) (F T : Nat → Int) : Int := if mayB n F T = true then sumF F T n else 0
theorem sumF_bd {F T : Nat → Int} {n : Nat} (h : ∀ j, j < n → oneP (F j) (T j)) : ∀ i, i ≤ n → 0 ≤ sumF F T i ∧ sumF F T i ≤ 1048576 * i
  | 0, _ => by simp [sumF]
  | i + 1, hi => by
    have h1 := sumF_bd h i (by omega)
    have h2 := h i (by omega)
    unfold oneP at h2
    unfold sumF
    omega
/-- the first range that is long enough -/
def fst? (n : Nat) (F T : Nat → Int) (m : Int) : Option Nat := (List.range n).find? fun j => decide (m ≤ T j - F j)
def firstV (n : Nat) (F T : Nat → Int) (m : Int) : Int := if mayB n F T = true ∧ 1 ≤ m then (match fst? n F T m with | some j => F j | none => 0) else 0
def firstE (n : Nat) (F T : Nat → Int) (m : Int) : Int := if mayB n F T = true then (if 1 ≤ m then (match fst? n F T m with | some _ => 0 | none => 6) else 2) else 4
theorem fst_some {F T : Nat → Int} {n i : Nat} {m : Int} (hi : i < n) (hc : m ≤ T i - F i) (hno : ∀ j, j < i → T j - F j < m) : fst? n F T m = some i := by
  unfold fst?
  rw [List.find?_range_eq_some]
  exact ⟨by simpa using hc, by simpa using hi, fun j hj => by have := hno j hj; simp; omega⟩
theorem fst_none {F T : Nat → Int} {n : Nat} {m : Int} (hno : ∀ j, j < n → T j - F j < m) : fst? n F T m = none := by
  unfold fst?
  rw [List.find?_eq_none]
  intro x hx
  have := hno x (by simpa using hx)
  simp
  omega
theorem first_found {F T : Nat → Int} {n : Nat} {m : Int} (hmay : mayB n F T = true) (hm : 1 ≤ m) : ∀ i, i < n → m ≤ T i - F i → (∀ j, j < i → T j - F j < m) → firstV n F T m = F i ∧ firstE n F T m = 0 := by
  intro i hi hc hno
  have h := fst_some hi hc hno
  simp [firstV, firstE, hmay, hm, h]
theorem first_none {F T : Nat → Int} {n : Nat} {m : Int} (hmay : mayB n F T = true) (hm : 1 ≤ m) : (∀ j, j < n → T j - F j < m) → firstV n F T m = 0 ∧ firstE n F T m = 6 := by
  intro hno
  have h := fst_none hno
  simp [firstV, firstE, hmay, hm, h]
theorem Size_any (A : Option Addr) (n c : Nat) (F T : Nat → Int) (w : World) (h : Rd w A n F T) :
    Calls Try.prog 15 #[.slice A n c] w fun e w' => e = .returned (.int .i64 (sizeF n F T)) ∧ New w w' := by
  by_cases hmay : mayB n F T = true
  · obtain ⟨hn, hst⟩ := mayB_out hmay
    have hV : Hid (sizeF n F T = sumF F T n) := if_pos hmay
    have hone := Lib.hid (fun j hj => (hst j hj).1)
    have hbd := Lib.hid (sumF_bd (F := F) (T := T) (n := n) (fun j hj => (hst j hj).1))
    have hlin : (n : Int) ≤ 200 := by omega
    clear hst
    go_enter Try.func15, Try.ntmps15
    go_wp2_with fail
    refine (May_any _ _ _ _ _ _ h).mono ?_
    rintro e w1 ⟨rfl, hn1⟩
    go_wp2
    go_loopw [3, 10] (fun s k wr => ∃ i : Nat, k = .int .i64 i ∧ s = .int .i64 (sumF F T i) ∧ i ≤ n ∧ New w wr) (fun _ k _ => n - (intOf k).toNat)
    case atStart => exact ⟨0, rfl, rfl, by omega, hn1⟩
    case round =>
      obtain ⟨i, rfl, rfl, hi, hnw⟩ := hrel
      clear hn1
      by_cases hlt : i < n
      · obtain ⟨b, off, rfl, hb, hcs⟩ := (h.new hnw).2 (by omega)
        obtain ⟨d0, d1⟩ := hcs i hlt
        have b1 := hbd.out i hi
        have b3 := hone.out i hlt
        unfold oneP at b3
        have hs : Hid (sumF F T (i + 1) = sumF F T i + (T i - F i)) := rfl
        have iI : (i : Int) < (n : Int) := by omega
        clear hcs
        generalize sumF F T i = S at *
        go_wp2
        go_roundw
        case rel => exact ⟨i + 1, by go_num, by rw [hs.out], by omega, hnw.alloc _⟩
        case measure => simp [intOf]; omega
      · have hs : Hid (sumF F T i = sizeF n F T) := by rw [hV.out]; show sumF F T i = sumF F T n; rw [show i = n by omega]
        have iI : ¬ (i : Int) < (n : Int) := by omega
        go_wp2
        go_ret
        exact ⟨ret1 hs.out, hnw⟩
  · have hf : mayB n F T = false := by simpa using hmay
    have hV : Hid (sizeF n F T = 0) := if_neg hmay
    go_enter Try.func15, Try.ntmps15
    clear hmay
    go_wp2_with fail
    refine (May_any _ _ _ _ _ _ h).mono ?_
    rintro e w1 ⟨rfl, hn1⟩
    go_wp2
    go_ret
    exact ⟨ret1 hV.out.symm, hn1⟩
theorem SpanSize_any (A : Option Addr) (n c : Nat) (F T : Nat → Int) (w : World) (h : Rd w A n F T) :
    Calls Try.prog 16 #[.slice A n c] w fun e w' => e = .returned (.int .i64 (sizeF n F T)) ∧ New w w' := by
  by_cases hmay : mayB n F T = true
  · obtain ⟨hn, hst⟩ := mayB_out hmay
    have hV : Hid (sizeF n F T = sumF F T n) := if_pos hmay
    have hone := Lib.hid (fun j hj => (hst j hj).1)
    have hbd := Lib.hid (sumF_bd (F := F) (T := T) (n := n) (fun j hj => (hst j hj).1))
    have hlin : (n : Int) ≤ 200 := by omega
    clear hst
    go_enter Try.func16, Try.ntmps16
    go_wp2
    have hn1 := New.refl w
    go_loopw [3, 8] (fun s k wr => ∃ i : Nat, k = .int .i64 i ∧ s = .int .i64 (sumF F T i) ∧ i ≤ n ∧ New w wr) (fun _ k _ => n - (intOf k).toNat)
    case atStart => exact ⟨0, rfl, rfl, by omega, hn1⟩
    case round =>
      obtain ⟨i, rfl, rfl, hi, hnw⟩ := hrel
      clear hn1
      by_cases hlt : i < n
      · obtain ⟨b, off, rfl, hb, hcs⟩ := (h.new hnw).2 (by omega)
        obtain ⟨d0, d1⟩ := hcs i hlt
        have b1 := hbd.out i hi
        have b3 := hone.out i hlt
        unfold oneP at b3
        have hs : Hid (sumF F T (i + 1) = sumF F T i + (T i - F i)) := rfl
        have iI : (i : Int) < (n : Int) := by omega
        clear hcs
        generalize sumF F T i = S at *
        go_wp2_with fail
        refine (SpanMay_any _ _ _ _ _ _ ((h.new hnw).new ((New.refl _).alloc _))).mono ?_
        rintro e w2 ⟨rfl, hn2⟩
        have g0 : w2.cell? ⟨wr.heap.size, 0, none⟩ = some (.int .i64 (F i)) := (hn2.cell (by simp)).trans (by simp)
        have g1 : w2.cell? ⟨wr.heap.size, 1, none⟩ = some (.int .i64 (T i)) := (hn2.cell (by simp)).trans (by simp)
        go_wp2
        go_roundw
        case rel => exact ⟨i + 1, by go_num, by rw [hs.out], by omega, hnw.next hn2.of_alloc⟩
        case measure => simp [intOf]; omega
      · have hs : Hid (sumF F T i = sizeF n F T) := by rw [hV.out]; show sumF F T i = sumF F T n; rw [show i = n by omega]
        have iI : ¬ (i : Int) < (n : Int) := by omega
        go_wp2
        go_ret
        exact ⟨ret1 hs.out, hnw⟩
  · have hf : mayB n F T = false := by simpa using hmay
    have hV : Hid (sizeF n F T = 0) := if_neg hmay
    go_enter Try.func16, Try.ntmps16
    have hm := h.1
    unfold maxLen at hm
    clear hmay
    go_wp2
    go_loopw [3, 8] (fun s k wr => ∃ i : Nat, s = .int .i64 0 ∧ k = .int .i64 i ∧ i ≤ n ∧ New w wr) (fun _ k _ => n - (intOf k).toNat)
    case atStart => exact ⟨0, rfl, rfl, by omega, New.refl w⟩
    case round =>
      obtain ⟨i, rfl, rfl, hi, hnw⟩ := hrel
      by_cases hlt : i < n
      · obtain ⟨b, off, rfl, hb, hcs⟩ := (h.new hnw).2 (by omega)
        obtain ⟨d0, d1⟩ := hcs i hlt
        have iI : (i : Int) < (n : Int) := by omega
        clear hcs
        go_wp2_with fail
        refine (SpanMay_any _ _ _ _ _ _ ((h.new hnw).new ((New.refl _).alloc _))).mono ?_
        rintro e w2 ⟨rfl, hn2⟩
        go_wp2
        go_roundw
        case rel => exact ⟨i + 1, rfl, by go_num, by omega, hnw.next hn2.of_alloc⟩
        case measure => simp [intOf]; omega
      · have iI : ¬ (i : Int) < (n : Int) := by omega
        go_wp2
        go_ret
        exact ⟨ret1 hV.out.symm, hnw⟩
theorem First_any (A : Option Addr) (n c : Nat) (F T : Nat → Int) (m : Int) (w : World) (h : Rd w A n F T) :
    Calls Try.prog 17 #[.slice A n c, .int .i64 m] w fun e w' => e = .returned (.tuple #[.int .i64 (firstV n F T m), .int .i64 (firstE n F T m)]) ∧ New w w' := by
  by_cases hmay : mayB n F T = true
  · by_cases hm1 : 1 ≤ m
    · obtain ⟨hn, hst⟩ := mayB_out hmay
      have hF := Lib.hid (first_found (F := F) (T := T) (n := n) (m := m) hmay hm1)
      have hN := Lib.hid (first_none (F := F) (T := T) (n := n) (m := m) hmay hm1)
      have hone := Lib.hid (fun j hj => (hst j hj).1)
      have hlin : (n : Int) ≤ 200 := by omega
      clear hst
      go_enter Try.func17, Try.ntmps17
      go_wp2_with fail
      refine (May_any _ _ _ _ _ _ h).mono ?_
      rintro e w1 ⟨rfl, hn1⟩
      go_wp2
      go_loopw [15] (fun k wr => ∃ i : Nat, k = .int .i64 i ∧ i ≤ n ∧ New w wr ∧ Hid (∀ j, j < i → T j - F j < m)) (fun k _ => n - (intOf k).toNat)
      case atStart => exact ⟨0, rfl, by omega, hn1, fun j hj => absurd hj (Nat.not_lt_zero j)⟩
      case round =>
        obtain ⟨i, rfl, hi, hnw, hno⟩ := hrel
        clear hn1
        by_cases hlt : i < n
        · obtain ⟨b, off, rfl, hb, hcs⟩ := (h.new hnw).2 (by omega)
          obtain ⟨d0, d1⟩ := hcs i hlt
          have b3 := hone.out i hlt
          unfold oneP at b3
          have iI : (i : Int) < (n : Int) := by omega
          clear hcs
          by_cases hc : m ≤ T i - F i
          · have hv := Lib.hid (hF.out i hlt hc hno.out)
            clear hF hN hno
            go_wp2
            go_ret2
            exact ⟨ret2 hv.out.1.symm hv.out.2.symm, hnw.alloc _⟩
          · have hno2 : Hid (∀ j, j < i + 1 → T j - F j < m) := fun j hj => by
              by_cases hji : j = i
              · subst hji; omega
              · exact hno.out j (by omega)
            go_wp2
            go_roundw
            case rel => exact ⟨i + 1, by go_num, by omega, hnw.alloc _, hno2.out⟩
            case measure => simp [intOf]; omega
        · have hv := Lib.hid (hN.out (fun j hj => hno.out j (by omega)))
          have iI : ¬ (i : Int) < (n : Int) := by omega
          clear hF hN hno
          go_wp2
          go_ret2
          exact ⟨ret2 hv.out.1.symm hv.out.2.symm, hnw⟩
    · have hV : Hid (firstV n F T m = 0 ∧ firstE n F T m = 2) := ⟨by simp [firstV, hmay, hm1], by simp [firstE, hmay, hm1]⟩
      go_enter Try.func17, Try.ntmps17
      go_wp2_with fail
      refine (May_any _ _ _ _ _ _ h).mono ?_
      rintro e w1 ⟨rfl, hn1⟩
      go_wp2
      go_ret2
      exact ⟨ret2 hV.out.1.symm hV.out.2.symm, hn1⟩
  · have hf : mayB n F T = false := by simpa using hmay
    have hV : Hid (firstV n F T m = 0 ∧ firstE n F T m = 4) := ⟨by simp [firstV, hmay], by simp [firstE, hmay]⟩
    clear hmay
    go_enter Try.func17, Try.ntmps17
    go_wp2_with fail
    refine (May_any _ _ _ _ _ _ h).mono ?_
    rintro e w1 ⟨rfl, hn1⟩
    go_wp2
    go_ret2
    exact ⟨ret2 hV.out.1.symm hV.out.2.symm, hn1⟩
theorem SpanFirst_any (A : Option Addr) (n c : Nat) (F T : Nat → Int) (m : Int) (w : World) (h : Rd w A n F T) :
    Calls Try.prog 18 #[.slice A n c, .int .i64 m] w fun e w' => e = .returned (.tuple #[.int .i64 (firstV n F T m), .int .i64 (firstE n F T m)]) ∧ New w w' := by
  by_cases hmay : mayB n F T = true
  · by_cases hm1 : 1 ≤ m
    · obtain ⟨hn, hst⟩ := mayB_out hmay
      have hF := Lib.hid (first_found (F := F) (T := T) (n := n) (m := m) hmay hm1)
      have hN := Lib.hid (first_none (F := F) (T := T) (n := n) (m := m) hmay hm1)
      have hone := Lib.hid (fun j hj => (hst j hj).1)
      have hlin : (n : Int) ≤ 200 := by omega
      clear hst
      go_enter Try.func18, Try.ntmps18
      go_wp2_with fail
      refine (SpanMay_any _ _ _ _ _ _ h).mono ?_
      rintro e w1 ⟨rfl, hn1⟩
      go_wp2
      go_loopw [15] (fun k wr => ∃ i : Nat, k = .int .i64 i ∧ i ≤ n ∧ New w wr ∧ Hid (∀ j, j < i → T j - F j < m)) (fun k _ => n - (intOf k).toNat)
      case atStart => exact ⟨0, rfl, by omega, hn1, fun j hj => absurd hj (Nat.not_lt_zero j)⟩
      case round =>
        obtain ⟨i, rfl, hi, hnw, hno⟩ := hrel
        clear hn1
        by_cases hlt : i < n
        · obtain ⟨b, off, rfl, hb, hcs⟩ := (h.new hnw).2 (by omega)
          obtain ⟨d0, d1⟩ := hcs i hlt
          have b3 := hone.out i hlt
          unfold oneP at b3
          have iI : (i : Int) < (n : Int) := by omega
          clear hcs
          by_cases hc : m ≤ T i - F i
          · have hv := Lib.hid (hF.out i hlt hc hno.out)
            clear hF hN hno
            go_wp2
            go_ret2
            exact ⟨ret2 hv.out.1.symm hv.out.2.symm, hnw.alloc _⟩
          · have hno2 : Hid (∀ j, j < i + 1 → T j - F j < m) := fun j hj => by
              by_cases hji : j = i
              · subst hji; omega
              · exact hno.out j (by omega)
            go_wp2
            go_roundw
            case rel => exact ⟨i + 1, by go_num, by omega, hnw.alloc _, hno2.out⟩
            case measure => simp [intOf]; omega
        · have hv := Lib.hid (hN.out (fun j hj => hno.out j (by omega)))
          have iI : ¬ (i : Int) < (n : Int) := by omega
          clear hF hN hno
          go_wp2
          go_ret2
          exact ⟨ret2 hv.out.1.symm hv.out.2.symm, hnw⟩
    · have hV : Hid (firstV n F T m = 0 ∧ firstE n F T m = 2) := ⟨by simp [firstV, hmay, hm1], by simp [firstE, hmay, hm1]⟩
      go_enter Try.func18, Try.ntmps18
      go_wp2_with fail
      refine (SpanMay_any _ _ _ _ _ _ h).mono ?_
      rintro e w1 ⟨rfl, hn1⟩
      go_wp2
      go_ret2
      exact ⟨ret2 hV.out.1.symm hV.out.2.symm, hn1⟩
  · have hf : mayB n F T = false := by simpa using hmay
    have hV : Hid (firstV n F T m = 0 ∧ firstE n F T m = 4) := ⟨by simp [firstV, hmay], by simp [firstE, hmay]⟩
    clear hmay
    go_enter Try.func18, Try.ntmps18
    go_wp2_with fail
    refine (SpanMay_any _ _ _ _ _ _ h).mono ?_
    rintro e w1 ⟨rfl, hn1⟩
    go_wp2
    go_ret2
    exact ⟨ret2 hV.out.1.symm hV.out.2.symm, hn1⟩
end Go.Proofs.Ythkgcbjfgglciaa.span
