/-
  Plain laws: what is put together place by place; places kept in order, each once.
-/
import Derived.Test.YthkgcbjfgglciaaSpanLaw
namespace Go.Proofs.Ythkgcbjfgglciaa.spans

/-- places Pl 0 < Pl 1 < .. of m; between two of them all numbers are alike, outside of them none is so -/
structure plP (S : Int → Bool) (Pl : Nat → Int) (m : Nat) : Prop where
  up : ∀ i, i + 1 < m → Pl i < Pl (i + 1)
  same : ∀ i, i + 1 < m → ∀ x, Pl i ≤ x → x < Pl (i + 1) → S x = S (Pl i)
  low : ∀ x, (0 < m → x < Pl 0) → S x = false
  high : ∀ x, 0 < m → Pl (m - 1) ≤ x → S x = false
structure thAt (S : Int → Bool) (Pl : Nat → Int) (i : Nat) (R : Rs) : Prop where
  norm : normR R
  is : ∀ x, x < Pl i → (S x = true ↔ inR R x)
  near : ∀ q ∈ R, q.2 ≤ Pl i
theorem th_start {S : Int → Bool} {Pl : Nat → Int} {m : Nat} (h : plP S Pl m) : thAt S Pl 0 [] where
  norm := ⟨List.Pairwise.nil, fun p hp => by cases hp⟩
  is := fun x hx => by
    rw [h.low x fun _ => hx]
    constructor
    · intro h; cases h
    · intro h; exact absurd h (inR_nil x)
  near := fun q hq => by cases hq
theorem th_far {S : Int → Bool} {Pl : Nat → Int} {i : Nat} {R : Rs} (h : thAt S Pl i R) {x : Int} (hx : Pl i ≤ x) : ¬ inR R x := by
  rintro ⟨q, hq, _, h2⟩
  have := h.near q hq
  omega
theorem th_no {S : Int → Bool} {Pl : Nat → Int} {m i : Nat} {R : Rs} (hp : plP S Pl m) (h : thAt S Pl i R) (hi : i + 1 < m) (hs : S (Pl i) = false) : thAt S Pl (i + 1) R where
  norm := h.norm
  is := fun x hx => by
    rcases Int.lt_or_le x (Pl i) with h1 | h1
    · exact h.is x h1
    · rw [hp.same i hi x h1 hx, hs]
      constructor
      · intro h; cases h
      · intro h2; exact absurd h2 (th_far h h1)
  near := fun q hq => by have := h.near q hq; have := hp.up i hi; omega
theorem th_app {S : Int → Bool} {Pl : Nat → Int} {m i : Nat} {R : Rs} (hp : plP S Pl m) (h : thAt S Pl i R) (hi : i + 1 < m) (hs : S (Pl i) = true) (hl : ∀ q ∈ R, q.2 ≠ Pl i) : thAt S Pl (i + 1) (R ++ [(Pl i, Pl (i + 1))]) where
  norm := norm_snoc h.norm (fun q hq => by have := h.near q hq; have := hl q hq; omega) (hp.up i hi)
  is := fun x hx => by
    rw [inR_snoc]
    rcases Int.lt_or_le x (Pl i) with h1 | h1
    · rw [h.is x h1]
      constructor
      · exact .inl
      · rintro (h2 | h2)
        · exact h2
        · have := h2.1; simp only at this; omega
    · rw [hp.same i hi x h1 hx, hs]
      exact ⟨fun _ => .inr ⟨h1, hx⟩, fun _ => rfl⟩
  near := fun q hq => by
    have := hp.up i hi
    rcases List.mem_append.1 hq with h1 | h1
    · have := h.near q h1; omega
    · rw [List.mem_singleton.1 h1]; exact Int.le_refl _
theorem norm_last {R : Rs} {f t : Int} (h : normR (R ++ [(f, t)])) : normR R ∧ (∀ q ∈ R, q.2 < f) ∧ f < t := by
  obtain ⟨h1, h2⟩ := h
  rw [List.pairwise_append] at h1
  exact ⟨⟨h1.1, fun p hp => h2 p (List.mem_append_left _ hp)⟩, fun q hq => h1.2.2 q hq (f, t) (by simp), h2 (f, t) (by simp)⟩
theorem th_ext {S : Int → Bool} {Pl : Nat → Int} {m i : Nat} {R : Rs} {f : Int} (hp : plP S Pl m) (h : thAt S Pl i (R ++ [(f, Pl i)])) (hi : i + 1 < m) (hs : S (Pl i) = true) : thAt S Pl (i + 1) (R ++ [(f, Pl (i + 1))]) := by
  obtain ⟨n1, n2, n3⟩ := norm_last h.norm
  have hup := hp.up i hi
  refine ⟨norm_snoc n1 n2 (by omega), fun x hx => ?_, fun q hq => ?_⟩
  · rw [inR_snoc]
    rcases Int.lt_or_le x (Pl i) with h1 | h1
    · rw [h.is x h1, inR_snoc]
      constructor
      · rintro (h2 | h2)
        · exact .inl h2
        · exact .inr ⟨h2.1, hx⟩
      · rintro (h2 | h2)
        · exact .inl h2
        · exact .inr ⟨h2.1, h1⟩
    · rw [hp.same i hi x h1 hx, hs]
      exact ⟨fun _ => .inr ⟨by simp only; omega, hx⟩, fun _ => rfl⟩
  · rcases List.mem_append.1 hq with h1 | h1
    · have := n2 q h1; omega
    · rw [List.mem_singleton.1 h1]; exact Int.le_refl _
/-- lists of which the last range ends at a place, or none does -/
theorem th_last {S : Int → Bool} {Pl : Nat → Int} {i : Nat} {R : Rs} {f t : Int} (h : thAt S Pl i (R ++ [(f, t)])) (ht : t ≠ Pl i) : ∀ q ∈ R ++ [(f, t)], q.2 ≠ Pl i := by
  intro q hq
  obtain ⟨n1, n2, n3⟩ := norm_last h.norm
  rcases List.mem_append.1 hq with h1 | h1
  · have h2 := n2 q h1
    have h3 := h.near (f, t) (by simp)
    simp only at h3
    omega
  · rw [List.mem_singleton.1 h1]; exact ht
theorem th_end {S : Int → Bool} {Pl : Nat → Int} {m : Nat} {R : Rs} (hp : plP S Pl m) (hm : 0 < m) (h : thAt S Pl (m - 1) R) : normR R ∧ ∀ x, S x = true ↔ inR R x :=
  ⟨h.norm, fun x => by
    rcases Int.lt_or_le x (Pl (m - 1)) with h1 | h1
    · exact h.is x h1
    · rw [hp.high x hm h1]
      constructor
      · intro h; cases h
      · intro h2; exact absurd h2 (th_far h h1)⟩
theorem th_none {S : Int → Bool} {Pl : Nat → Int} (hp : plP S Pl 0) : normR [] ∧ ∀ x, S x = true ↔ inR [] x :=
  ⟨⟨List.Pairwise.nil, fun p hp => by cases hp⟩, fun x => by
    rw [hp.low x fun h => absurd h (Nat.lt_irrefl 0)]
    constructor
    · intro h; cases h
    · intro h; exact absurd h (inR_nil x)⟩

/-- places in order, each once -/
def upL (l : List Int) : Prop := l.Pairwise (· < ·)
theorem up_ins {l : List Int} {n : Int} {a : Nat} (h : upL l) (h1 : ∀ x ∈ l.take a, x < n) (h2 : ∀ x ∈ l.drop a, n < x) : upL (l.take a ++ n :: l.drop a) := by
  unfold upL at h ⊢
  rw [List.pairwise_append]
  refine ⟨h.sublist (List.take_sublist _ _), ?_, fun x hx y hy => ?_⟩
  · rw [List.pairwise_cons]
    exact ⟨h2, h.sublist (List.drop_sublist _ _)⟩
  · rcases List.mem_cons.1 hy with rfl | hy
    · exact h1 x hx
    · have := h1 x hx; have := h2 y hy; omega
theorem mem_ins {l : List Int} {n : Int} {a : Nat} (x : Int) : x ∈ l.take a ++ n :: l.drop a ↔ x = n ∨ x ∈ l := by
  constructor
  · intro h
    rcases List.mem_append.1 h with h1 | h1
    · exact .inr (List.mem_of_mem_take h1)
    · rcases List.mem_cons.1 h1 with h2 | h2
      · exact .inl h2
      · exact .inr (List.mem_of_mem_drop h2)
  · rintro (h | h)
    · subst h; simp
    · rw [← List.take_append_drop a l] at h
      rcases List.mem_append.1 h with h1 | h1
      · exact List.mem_append_left _ h1
      · exact List.mem_append_right _ (List.mem_cons_of_mem _ h1)
end Go.Proofs.Ythkgcbjfgglciaa.spans
