/-
  Contract of the reference: the product of matrices.
-/
import Derived.Test.YtjmjnodaohbpfaaMatMul
namespace Go.Proofs.Ytjmjnodaohbpfaa.mat
open Go.ChangeShapes Go.WideShapes Go.ChangeAt Go.RowKit Go.Proofs.Ytjmjnodaohbpfaa.kit Go.Proofs.Ytjmjnodaohbpfaa.gf Go.Deep
set_option linter.unusedVariables false

theorem rowIs_ne {w : World} {a b : Nat} {t t' : TypeId} {n m : Nat} {f g : Nat → Value} (h : w.rowIs a t n f) (k : w.rowIs b t' m g) (hne : t ≠ t') : a ≠ b := by
  intro he
  subst he
  obtain ⟨c, hc, _⟩ := h
  obtain ⟨d, hd, _⟩ := k
  rw [hc] at hd
  injection hd with hd
  injection hd with _ hd _
  exact hne hd
/-- the rows that are laid: of the first i -/
def topF (G : Nat → Nat) (m i : Nat) : Nat → Value := fun j => if j < i then .slice (some ⟨G j, 0, none⟩) m m else .slice none 0 0
theorem topF_set (G : Nat → Nat) (m i g : Nat) : (fun j => if j = i then Value.slice (some ⟨g, 0, none⟩) m m else topF G m i j) = topF (fun j => if j = i then g else G j) m (i + 1) := by
  funext j
  unfold topF
  by_cases h : j = i
  · subst h; simp
  · by_cases h2 : j < i
    · have : j < i + 1 := by omega
      simp [h, h2, this]
    · have : ¬ j < i + 1 := by omega
      simp [h, h2, this]
/-- what the rounds of a row leave as it is -/
def keepT (w wr : World) (t1 t2 : TypeId) (n m i k : Nat) (G : Nat → Nat) (f : Nat → Nat → Value) : Prop :=
  New w wr ∧ wr.rowIs w.heap.size t1 n (topF G m i) ∧ ∀ j, j < k → wr.rowIs (G j) t2 m (f j)
theorem keepT.new {w wr wr' : World} {t1 t2 : TypeId} {n m i k : Nat} {G : Nat → Nat} {f : Nat → Nat → Value} (h : keepT w wr t1 t2 n m i k G f) (hn : New wr wr') : keepT w wr' t1 t2 n m i k G f :=
  ⟨h.1.next hn, rowIs_new h.2.1 hn, fun j hj => rowIs_new (h.2.2 j hj) hn⟩
theorem keepT.set {w wr : World} {t1 t2 : TypeId} {n m i k : Nat} {G : Nat → Nat} {f : Nat → Nat → Value} (h : keepT w wr t1 t2 n m i k G f) {a : Addr} (ha : w.heap.size < a.block) (hG : ∀ j, j < k → G j ≠ a.block) (v : Value) : keepT w (wr.setCell a v) t1 t2 n m i k G f :=
  ⟨h.1.set (Nat.le_of_lt ha) _, h.2.1.setOther (Nat.ne_of_lt ha) _, fun j hj => (h.2.2 j hj).setOther (hG j hj) _⟩
/-- a row of sums while column by column is added -/
def colF (s : Nat → Nat → Nat) (k j : Nat) : Nat → Value := fun q => .int .i64 ((if q < j then s (k + 1) q else s k q : Nat) : Int)
theorem colF_at (s : Nat → Nat → Nat) (k j : Nat) : colF s k j j = .int .i64 (s k j : Nat) := by simp [colF]
theorem colF_set (s : Nat → Nat → Nat) (k j : Nat) : (fun q => if q = j then Value.int .i64 (s (k + 1) j : Nat) else colF s k j q) = colF s k (j + 1) := by
  funext q
  unfold colF
  by_cases h : q = j
  · subst h; simp
  · by_cases h2 : q < j
    · have : q < j + 1 := by omega
      simp [h, h2, this]
    · have : ¬ q < j + 1 := by omega
      simp [h, h2, this]
end Go.Proofs.Ytjmjnodaohbpfaa.mat
