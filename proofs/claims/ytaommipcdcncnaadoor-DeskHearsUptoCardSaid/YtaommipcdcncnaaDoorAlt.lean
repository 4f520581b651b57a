/-
  Worlds that differ in blocks of a set alone, and in new ones.
-/
import Derived.Test.YtaommipcdcncnaaDoorRow
import Derived.Test.YtaommipcdcncnaaDoorQuiet
namespace Go.Proofs.YtaommipcdcncnaaDoor.kit
open Go.RowKit Go.Deep
set_option linter.unusedVariables false
/-- whatever is not in K lies as it lay -/
structure Alt (K : Nat → Prop) (w w' : World) : Prop where
  os : w'.os = w.os
  tape : w'.tape = w.tape
  output : w'.output = w.output
  size : w.heap.size ≤ w'.heap.size
  same : ∀ k, k < w.heap.size → ¬ K k → w'.heap[k]? = w.heap[k]?
section
variable {K : Nat → Prop} {w w' w'' : World}
theorem Alt.refl (w : World) : Alt K w w := ⟨rfl, rfl, rfl, Nat.le_refl _, fun _ _ _ => rfl⟩
theorem Alt.trans (h : Alt K w w') (k : Alt K w' w'') : Alt K w w'' :=
  ⟨k.os.trans h.os, k.tape.trans h.tape, k.output.trans h.output, Nat.le_trans h.size k.size, fun i hi hK => (k.same i (Nat.lt_of_lt_of_le hi h.size) hK).trans (h.same i hi hK)⟩
/-- .. where the second step may change what is new to the first -/
theorem Alt.trans' {K' : Nat → Prop} (h : Alt K w w') (k : Alt K' w' w'') (hK : ∀ i, K' i → K i ∨ w.heap.size ≤ i) : Alt K w w'' :=
  ⟨k.os.trans h.os, k.tape.trans h.tape, k.output.trans h.output, Nat.le_trans h.size k.size, fun i hi hn => (k.same i (Nat.lt_of_lt_of_le hi h.size) fun hk => by rcases hK i hk with h1 | h1; exact hn h1; omega).trans (h.same i hi hn)⟩
theorem Alt.of_new (h : New w w') : Alt K w w' := ⟨h.os, h.tape, h.output, h.size, fun i hi _ => h.block i hi⟩
theorem Alt.next (h : Alt K w w') (k : New w' w'') : Alt K w w'' := h.trans (Alt.of_new k)
theorem Alt.alloc (h : Alt K w w') (o : Obj) : Alt K w (w'.alloc o) := h.next ((New.refl w').alloc o)
theorem Alt.drew (h : Alt K w w') : Alt K w w'.drew := ⟨h.os, h.tape, h.output, h.size, h.same⟩
theorem Alt.drewN (h : Alt K w w') (n : Nat) : Alt K w (w'.drewN n) := ⟨h.os, h.tape, h.output, h.size, h.same⟩
theorem Alt.grown {row : Option Nat} (h : Alt K w w') (hg : w'.grownBy w'' row) (hr : ∀ r, row = some r → K r ∨ w.heap.size ≤ r) : Alt K w w'' :=
  ⟨hg.os.trans h.os, hg.tape.trans h.tape, hg.output.trans h.output, Nat.le_trans h.size hg.size, fun i hi hK => (hg.block i (Nat.lt_of_lt_of_le hi h.size) fun e => by rcases hr i e.symm with h1 | h1; exact hK h1; omega).trans (h.same i hi hK)⟩
theorem Alt.set (h : Alt K w w') {b k : Nat} (hb : K b ∨ w.heap.size ≤ b) (u : Value) : Alt K w (w'.setCell ⟨b, k, none⟩ u) := h.grown (grown_set w' b k u) fun r e => by cases e; exact hb
theorem grown_row (w : World) (g : Nat) (cs : Array Value) : w.grownBy (w.setRow g cs) (some g) :=
  ⟨rfl, rfl, rfl, by simp, fun k _ hk => setRow_other w g k cs fun e => hk (by rw [e])⟩
theorem Alt.row (h : Alt K w w') {b : Nat} (hb : K b ∨ w.heap.size ≤ b) (cs : Array Value) : Alt K w (w'.setRow b cs) := h.grown (grown_row w' b cs) fun r e => by cases e; exact hb
theorem Alt.cell (h : Alt K w w') {a : Addr} {v : Value} (hc : w.cell? a = some v) (hK : ¬ K a.block) : w'.cell? a = some v := by
  rw [← hc]
  simp only [World.cell?, h.same _ (lt_of_cell hc) hK]
theorem Alt.below {base : Nat} (h : Alt K w w') (hb : base ≤ w.heap.size) (hK : ∀ k, K k → base ≤ k) : Below base w w' := ⟨h.os, h.tape, h.output, h.size, fun k hk => h.same k (by omega) fun hh => by have := hK k hh; omega⟩
theorem Alt.weak {K' : Nat → Prop} (h : Alt K w w') (hK : ∀ k, K k → K' k) : Alt K' w w' := ⟨h.os, h.tape, h.output, h.size, fun i hi hh => h.same i hi fun x => hh (hK i x)⟩
theorem Alt.blk (h : Alt K w w') {g : Nat} {t : TypeId} {cs : Array Value} (hb : Blk w g t cs) (hK : ¬ K g) : Blk w' g t cs := (h.same g hb.lt hK).trans hb
theorem Alt.row_is (h : Alt K w w') {g : Nat} {t : TypeId} {n : Nat} {f : Nat → Value} (hb : w.rowIs g t n f) (hK : ¬ K g) : w'.rowIs g t n f := hb.of_block (h.same g hb.lt hK)
theorem Alt.own (h : Alt K w w') {b e s n : Nat} {v : Value} {xs : List Value} (ho : w.ownsRow b e s v n xs) (hK : ∀ g, v.ownBlock = some g → ¬ K g) : w'.ownsRow b e s v n xs := by
  refine ⟨ho.1, ?_⟩
  rcases ho.2 with h0 | ⟨g, cap, cur, rfl, hb, hg, hr⟩
  · exact .inl h0
  · exact .inr ⟨g, cap, cur, rfl, hb, (h.same g (Array.getElem?_eq_some_iff.1 hg).1 (hK g rfl)).trans hg, hr⟩
end
/-- blocks of two types are two -/
theorem blk_ne' {w : World} {a b : Nat} {t u : TypeId} {cs ds : Array Value} (h : Blk w a t cs) (h' : Blk w b u ds) (hne : t ≠ u) : a ≠ b := fun e => by
  subst e
  unfold Blk at h h'
  rw [h] at h'
  injection h' with h'
  injection h' with _ h' _
  exact hne h'
theorem own_ne_blk {w : World} {base s n bb : Nat} {e t : TypeId} {v : Value} {xs : List Value} {cs : Array Value} (h : w.ownsRow base e s v n xs) (hb : Blk w bb t cs) (hne : e ≠ t) : v.ownBlock ≠ some bb := by
  intro he
  rcases h.2 with ⟨h0, _⟩ | ⟨g', cap, cur, h0, _, hg0, _⟩
  · rw [h0] at he; cases he
  · rw [h0] at he
    have : g' = bb := by simpa [Value.ownBlock] using he
    subst this
    exact blk_ne' (t := e) hg0 hb hne rfl
theorem rowIs_blk {w : World} {g : Nat} {t : TypeId} {n : Nat} {f : Nat → Value} (h : w.rowIs g t n f) : ∃ cs, Blk w g t cs ∧ cs.size = n ∧ ∀ i, i < n → cs[i]? = some (f i) := by
  obtain ⟨cs, h1, h2, h3⟩ := h
  exact ⟨cs, h1, h2, h3⟩
end Go.Proofs.YtaommipcdcncnaaDoor.kit
