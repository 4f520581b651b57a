/-
  The reference's lists in memory; thingAt, withoutThing, withThing.
-/
import Derived.Test.YtmpaheaedaeakaaPoolRefPlain
import Derived.Test.YtmpaheaedaeakaaPoolPlay
namespace Go.Proofs.Ytmpaheaedaeakaa.pool
open Go.ChangeShapes Go.WideShapes Go.ChangeAt Go.RowKit Go.Proofs.Ytmpaheaedaeakaa.kit Go.Deep Go.Maps
set_option linter.unusedVariables false
set_option maxRecDepth 100000
section
variable {α : Type} [Inhabited α]
/-- a value is a list of names with what they name -/
def LL (rd : Value → α → Prop) (w : World) (v : Value) (l : List (Nm × α)) : Prop :=
  ∃ (A : Option Addr) (c : Nat) (U : Nat → Value), v = .slice A l.length c ∧ l.length ≤ c ∧ c ≤ maxLen ∧ (A = none → c = 0) ∧ (0 < l.length → ∃ g off, A = some ⟨g, off, none⟩ ∧ g < w.heap.size ∧ ∀ i, i < l.length → w.cell? ⟨g, off + i * 2, none⟩ = some (encStr (nth l i).1) ∧ w.cell? ⟨g, off + i * 2 + 1, none⟩ = some (U i)) ∧ ∀ i, i < l.length → rd (U i) (nth l i).2 ∧ (U i).oneCell' = true
theorem LL.new {rd rd' : Value → α → Prop} {w w' : World} {v : Value} {l : List (Nm × α)} (h : LL rd w v l) (hn : New w w') (hr : ∀ v y, rd v y → rd' v y) : LL rd' w' v l := by
  obtain ⟨A, c, U, h1, h2, h3, h4, h5, h6⟩ := h
  refine ⟨A, c, U, h1, h2, h3, h4, fun h0 => ?_, fun i hi => ⟨hr _ _ (h6 i hi).1, (h6 i hi).2⟩⟩
  obtain ⟨g, off, e, hg, hc⟩ := h5 h0
  exact ⟨g, off, e, Nat.lt_of_lt_of_le hg hn.size, fun i hi => ⟨(hn.cell (p := ⟨g, off + i * 2, none⟩) hg).trans (hc i hi).1, (hn.cell (p := ⟨g, off + i * 2 + 1, none⟩) hg).trans (hc i hi).2⟩⟩
theorem LL.nil (rd : Value → α → Prop) (w : World) : LL rd w (.slice none 0 0) [] := ⟨_, _, fun _ => .slice none 0 0, rfl, Nat.le_refl _, Nat.zero_le _, fun _ => rfl, fun h => absurd h (Nat.lt_irrefl 0), fun i h => absurd h (Nat.not_lt_zero i)⟩
end
abbrev TL (w : World) (v : Value) (l : Ths) : Prop := LL (Bs w) w v l
abbrev SL (w : World) (v : Value) (l : List (Nm × Ths)) : Prop := LL (TL w) w v l
theorem TL.new {w w' : World} {v : Value} {l : Ths} (h : TL w v l) (hn : New w w') : TL w' v l := LL.new h hn fun _ _ hb => hb.new hn
theorem SL.new {w w' : World} {v : Value} {l : List (Nm × Ths)} (h : SL w v l) (hn : New w w') : SL w' v l := LL.new h hn fun _ _ hb => TL.new hb hn
/-- where a name stands -/
def posI {α : Type} [Inhabited α] (l : List (Nm × α)) (x : Nm) (p : Int) : Prop := (p = -1 ∧ get l x = none) ∨ ∃ i : Nat, p = i ∧ i < l.length ∧ (nth l i).1 = x
theorem thingAt_any (v : Value) (l : Ths) (x : Nm) (w : World) (h : TL w v l) (hl : l.length ≤ 1000) :
    Calls Try.prog 18 #[v, encStr x] w fun e w' => ∃ p : Int, e = .returned (.int .i64 p) ∧ posI l x p ∧ w = w' := by
  obtain ⟨A, c, U, rfl, hc1, hc2, _, h5, _⟩ := h
  have hcell := Lib.hid h5
  have hnone := Lib.hid (fun h => (get_none_iff (l := l) (x := x)).2 h)
  obtain ⟨n, hn⟩ : ∃ n, Hid (n = l.length) := ⟨_, rfl⟩
  rw [← hn.out] at hc1 hl
  have hcell2 : Hid (0 < n → ∃ g off, A = some ⟨g, off, none⟩ ∧ ∀ i, i < n → w.cell? ⟨g, off + i * 2, none⟩ = some (encStr (nth l i).1)) := by
    rw [hn.out]
    intro h0
    obtain ⟨g, off, e, _, hc⟩ := hcell.out h0
    exact ⟨g, off, e, fun i hi => (hc i hi).1⟩
  rw [← hn.out]
  clear h5 hcell
  go_enter Try.func18, Try.ntmps18
  go_wp2_with fail
  go_loopw [8] (fun q wr => ∃ i, q = .int .i64 (i : Nat) ∧ i ≤ n ∧ Hid (∀ j, j < i → (nth l j).1 ≠ x) ∧ w = wr) (fun q _ => n - (intOf q).toNat)
  case atStart => exact ⟨0, rfl, Nat.zero_le _, Lib.hid (fun j hj => absurd hj (Nat.not_lt_zero j)), rfl⟩
  case round =>
    obtain ⟨i, rfl, hi, hno, rfl⟩ := hrel
    by_cases hlt : i < n
    · obtain ⟨g, off, rfl, hc⟩ := hcell2.out (by omega)
      have e0 := hc i hlt
      have hil : (i : Int) < (n : Int) := by omega
      obtain ⟨y, hy⟩ : ∃ y, Hid (y = (nth l i).1) := ⟨_, rfl⟩
      rw [← hy.out] at e0
      clear hc
      by_cases e : y = x
      · have hd : (y == x) = true := by simp [e]
        have hdH := Lib.hid hd
        clear e
        go_wp2
        exact bodyPost_ret (v := .int .i64 (i : Nat)) (by simp [results, Try.results18, go_sem]) rfl ⟨_, rfl, .inr ⟨i, rfl, by have := hn.out; omega, by rw [← hy.out]; simpa using hdH.out⟩, rfl⟩
      · have hd : (y == x) = false := by simp [e]
        have e := Lib.hid e
        go_wp2
        go_roundw
        case rel =>
          refine ⟨i + 1, by go_num, by omega, Lib.hid (fun j hj => ?_), trivial⟩
          by_cases ej : j = i
          · subst ej
            rw [← hy.out]
            exact e.out
          · exact hno.out j (by omega)
        case measure => simp [intOf]; omega
    · have him : n = i := by omega
      subst him
      have hz : Hid (get l x = none) := hnone.out (by rw [← hn.out]; exact hno.out)
      clear hno
      go_wp2
      exact bodyPost_ret (v := .int .i64 (-1)) (by simp [results, Try.results18, go_sem]) rfl ⟨_, rfl, .inl ⟨rfl, hz.out⟩, rfl⟩
end Go.Proofs.Ytmpaheaedaeakaa.pool
