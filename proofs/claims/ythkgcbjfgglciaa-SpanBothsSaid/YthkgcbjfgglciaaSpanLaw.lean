/-
  Plain laws on ranges: normal lists are told by their numbers; what a sweep over edges makes, and what is put together place by place.
-/
import Derived.Test.YthkgcbjfgglciaaKit
namespace Go.Proofs.Ythkgcbjfgglciaa.spans

abbrev Rs := List (Int × Int)
def inR (R : Rs) (x : Int) : Prop := ∃ p ∈ R, p.1 ≤ x ∧ x < p.2
def normR (R : Rs) : Prop := R.Pairwise (fun a b => a.2 < b.1) ∧ ∀ p ∈ R, p.1 < p.2
theorem inR_nil (x : Int) : ¬ inR [] x := fun ⟨p, hp, _⟩ => by cases hp
theorem inR_cons (p : Int × Int) (R : Rs) (x : Int) : inR (p :: R) x ↔ (p.1 ≤ x ∧ x < p.2) ∨ inR R x := by
  unfold inR
  simp
theorem inR_snoc (p : Int × Int) (R : Rs) (x : Int) : inR (R ++ [p]) x ↔ inR R x ∨ (p.1 ≤ x ∧ x < p.2) := by
  unfold inR
  constructor
  · rintro ⟨q, hq, h⟩
    rcases List.mem_append.1 hq with h1 | h1
    · exact .inl ⟨q, h1, h⟩
    · rw [List.mem_singleton.1 h1] at h; exact .inr h
  · rintro (⟨q, hq, h⟩ | h)
    · exact ⟨q, List.mem_append_left _ hq, h⟩
    · exact ⟨p, by simp, h⟩
theorem norm_tail {p : Int × Int} {R : Rs} (h : normR (p :: R)) : normR R ∧ p.1 < p.2 ∧ ∀ q ∈ R, p.2 < q.1 :=
  ⟨⟨(List.pairwise_cons.1 h.1).2, fun q hq => h.2 q (List.mem_cons_of_mem _ hq)⟩, h.2 p (by simp), (List.pairwise_cons.1 h.1).1⟩
theorem norm_snoc {R : Rs} {f t : Int} (h : normR R) (hl : ∀ q ∈ R, q.2 < f) (ht : f < t) : normR (R ++ [(f, t)]) := by
  refine ⟨List.pairwise_append.2 ⟨h.1, by simp, fun a ha b hb => ?_⟩, fun p hp => ?_⟩
  · rw [List.mem_singleton.1 hb]; exact hl a ha
  · rcases List.mem_append.1 hp with h1 | h1
    · exact h.2 p h1
    · rw [List.mem_singleton.1 h1]; exact ht
/-- normal lists with the same numbers are the same -/
theorem norm_one : ∀ {R S : Rs}, normR R → normR S → (∀ x, inR R x ↔ inR S x) → R = S
  | [], [], _, _, _ => rfl
  | [], q :: S, _, hS, h => by
    have := (h q.1).2 ((inR_cons q S q.1).2 (.inl ⟨Int.le_refl _, (norm_tail hS).2.1⟩))
    exact absurd this (inR_nil _)
  | p :: R, [], hR, _, h => by
    have := (h p.1).1 ((inR_cons p R p.1).2 (.inl ⟨Int.le_refl _, (norm_tail hR).2.1⟩))
    exact absurd this (inR_nil _)
  | p :: R, q :: S, hR, hS, h => by
    obtain ⟨nR, pR, tR⟩ := norm_tail hR
    obtain ⟨nS, pS, tS⟩ := norm_tail hS
    have e1 : p.1 = q.1 := by
      have h1 := (h p.1).1 ((inR_cons p R p.1).2 (.inl ⟨Int.le_refl _, pR⟩))
      have h2 := (h q.1).2 ((inR_cons q S q.1).2 (.inl ⟨Int.le_refl _, pS⟩))
      have l1 : q.1 ≤ p.1 := by
        rcases (inR_cons q S p.1).1 h1 with h3 | ⟨r, hr, h3⟩
        · exact h3.1
        · have := tS r hr; omega
      have l2 : p.1 ≤ q.1 := by
        rcases (inR_cons p R q.1).1 h2 with h3 | ⟨r, hr, h3⟩
        · exact h3.1
        · have := tR r hr; omega
      omega
    have out : ∀ {p : Int × Int} {R : Rs}, normR (p :: R) → ¬ inR (p :: R) p.2 := fun {p R} hR hin => by
      obtain ⟨_, _, tR⟩ := norm_tail hR
      rcases (inR_cons p R p.2).1 hin with h3 | ⟨r, hr, h3⟩
      · omega
      · have := tR r hr; omega
    have e2 : p.2 = q.2 := by
      rcases Int.lt_trichotomy p.2 q.2 with hl | he | hl
      · exact absurd ((h p.2).2 ((inR_cons q S p.2).2 (.inl ⟨by omega, hl⟩))) (out hR)
      · exact he
      · exact absurd ((h q.2).1 ((inR_cons p R q.2).2 (.inl ⟨by omega, hl⟩))) (out hS)
    have e3 : R = S := norm_one nR nS fun x => by
      have hx := h x
      rw [inR_cons, inR_cons] at hx
      constructor
      · intro hin
        rcases hx.1 (.inr hin) with h3 | h3
        · obtain ⟨r, hr, h4⟩ := hin
          have := tR r hr
          omega
        · exact h3
      · intro hin
        rcases hx.2 (.inr hin) with h3 | h3
        · obtain ⟨r, hr, h4⟩ := hin
          have := tS r hr
          omega
        · exact h3
    rw [e3]
    congr 1
    exact Prod.ext e1 e2

/-- how many edges, by their weights, lie at x or ahead of it -/
def dep : List (Int × Int) → Int → Int
  | [], _ => 0
  | e :: E, x => (if e.1 ≤ x then e.2 else 0) + dep E x
def wsum : List (Int × Int) → Int
  | [] => 0
  | e :: E => e.2 + wsum E
theorem dep_perm {E E' : List (Int × Int)} (h : E.Perm E') (x : Int) : dep E x = dep E' x := by
  induction h with
  | nil => rfl
  | cons e _ ih => simp only [dep, ih]
  | swap e e' l => simp only [dep]; omega
  | trans _ _ h1 h2 => rw [h1, h2]
theorem dep_append (E E' : List (Int × Int)) (x : Int) : dep (E ++ E') x = dep E x + dep E' x := by
  induction E with
  | nil => simp [dep]
  | cons e E ih => simp only [List.cons_append, dep, ih]; omega
theorem dep_all {E : List (Int × Int)} {x : Int} (h : ∀ e ∈ E, e.1 ≤ x) : dep E x = wsum E := by
  induction E with
  | nil => rfl
  | cons e E ih =>
    simp only [dep, wsum]
    rw [if_pos (h e (by simp)), ih fun e' he => h e' (List.mem_cons_of_mem _ he)]
theorem dep_none {E : List (Int × Int)} {x : Int} (h : ∀ e ∈ E, x < e.1) : dep E x = 0 := by
  induction E with
  | nil => rfl
  | cons e E ih =>
    simp only [dep]
    rw [if_neg (by have := h e (by simp); omega), ih fun e' he => h e' (List.mem_cons_of_mem _ he)]
    rfl
theorem wsum_append (E E' : List (Int × Int)) : wsum (E ++ E') = wsum E + wsum E' := by
  induction E with
  | nil => simp [wsum]
  | cons e E ih => simp only [List.cons_append, wsum, ih]; omega
/-- the same over places and weights given one by one -/
def depF (P Q : Nat → Int) : Nat → Int → Int
  | 0, _ => 0
  | k + 1, x => depF P Q k x + (if P k ≤ x then Q k else 0)
def preF (Q : Nat → Int) : Nat → Int
  | 0 => 0
  | k + 1 => preF Q k + Q k
theorem preF_bd {Q : Nat → Int} {N : Nat} (h : ∀ k, k < N → -1 ≤ Q k ∧ Q k ≤ 1) : ∀ i, i ≤ N → -(i : Int) ≤ preF Q i ∧ preF Q i ≤ i
  | 0, _ => by simp [preF]
  | i + 1, hi => by
    have h1 := preF_bd h i (by omega)
    have h2 := h i (by omega)
    unfold preF
    omega
theorem depF_cut {P Q : Nat → Int} {x : Int} {i : Nat} : ∀ N, i ≤ N → (∀ k, k < i → P k ≤ x) → (∀ k, i ≤ k → k < N → x < P k) → depF P Q N x = preF Q i
  | 0, hi, _, _ => by
    have : i = 0 := by omega
    subst this; rfl
  | N + 1, hi, h1, h2 => by
    rcases Nat.lt_or_ge N i with hlt | hge
    · have he : i = N + 1 := by omega
      subst he
      unfold depF preF
      rw [if_pos (h1 N (by omega)), depF_cut (i := N) N (Nat.le_refl _) (fun k hk => h1 k (by omega)) (fun k hk hk2 => by omega)]
    · unfold depF
      rw [if_neg (by have := h2 N hge (by omega); omega), depF_cut N hge h1 fun k hk hk2 => h2 k hk (by omega)]
      omega
theorem depF_of (D : List (Int × Int)) (x : Int) : ∀ k, k ≤ D.length → depF (fun i => (D.getD i (0, 0)).1) (fun i => (D.getD i (0, 0)).2) k x = dep (D.take k) x
  | 0, _ => by simp [depF, dep]
  | k + 1, h => by
    have hk : k < D.length := by omega
    rw [List.take_succ_eq_append_getElem hk, dep_append, ← depF_of D x k (by omega)]
    have e : D.getD k (0, 0) = D[k] := by simp [hk]
    show depF _ _ k x + (if (D.getD k (0, 0)).1 ≤ x then (D.getD k (0, 0)).2 else 0) = _
    rw [e]
    simp only [dep]
    omega
theorem preF_of (D : List (Int × Int)) : ∀ k, k ≤ D.length → preF (fun i => (D.getD i (0, 0)).2) k = wsum (D.take k)
  | 0, _ => by simp [preF, wsum]
  | k + 1, h => by
    have hk : k < D.length := by omega
    rw [List.take_succ_eq_append_getElem hk, wsum_append, ← preF_of D k (by omega)]
    have e : D.getD k (0, 0) = D[k] := by simp [hk]
    show preF _ k + (D.getD k (0, 0)).2 = _
    rw [e]
    simp only [wsum]
    omega
/-- the state of a sweep that has done the first i of N edges -/
structure swAt (P Q : Nat → Int) (N : Nat) (want : Int → Bool) (i : Nat) (R : Rs) (f : Int) : Prop where
  norm : normR R
  is : ∀ x, (i < N → x < P i) → (want (depF P Q N x) = true ↔ inR R x ∨ (0 ≤ f ∧ f ≤ x))
  far : 0 ≤ f → ∀ q ∈ R, q.2 < f
  near : f < 0 → i < N → ∀ q ∈ R, q.2 < P i
  open_ : 0 ≤ f → i < N → f < P i
  now : want (preF Q i) = true ↔ 0 ≤ f
theorem sw_start {P Q : Nat → Int} {N : Nat} {want : Int → Bool} (h0 : want 0 = false) (hs : ∀ i j, i ≤ j → j < N → P i ≤ P j) : swAt P Q N want 0 [] (-1) where
  norm := ⟨List.Pairwise.nil, fun p hp => by cases hp⟩
  is := fun x hx => by
    have : depF P Q N x = preF Q 0 := depF_cut N (Nat.zero_le _) (fun k hk => absurd hk (Nat.not_lt_zero k)) (fun k _ hk => by
      have h1 := hs 0 k (Nat.zero_le _) hk
      have h2 := hx (by omega)
      omega)
    rw [this]
    show want 0 = true ↔ _
    rw [h0]
    constructor
    · intro h; cases h
    · rintro (h | h)
      · exact absurd h (inR_nil x)
      · omega
  far := fun h => by omega
  near := fun _ _ q hq => by cases hq
  open_ := fun h => by omega
  now := by
    show want 0 = true ↔ _
    rw [h0]
    constructor
    · intro h; cases h
    · intro h; omega
/-- one group of edges at one place -/
theorem sw_group {P Q : Nat → Int} {N : Nat} {want : Int → Bool} {i i' : Nat} {R : Rs} {f p : Int} (h : swAt P Q N want i R f) (hs : ∀ i j, i ≤ j → j < N → P i ≤ P j) (hi : i < N) (hp : P i = p) (hi' : i < i') (hN : i' ≤ N)
    (hin : ∀ k, i ≤ k → k < i' → P k = p) (hnext : i' < N → p < P i') (x : Int) (hx : i' < N → x < P i') (hpx : p ≤ x) : depF P Q N x = preF Q i' ∧ ¬ inR R x := by
  refine ⟨depF_cut N hN (fun k hk => ?_) (fun k hk hk2 => ?_), ?_⟩
  · rcases Nat.lt_or_ge k i with h1 | h1
    · have := hs k i (by omega) hi; omega
    · have := hin k h1 hk; omega
  · have h1 := hx (by omega)
    have h2 := hs i' k hk hk2
    omega
  · rintro ⟨q, hq, h1, h2⟩
    rcases Int.lt_or_le f 0 with hf | hf
    · have := h.near hf hi q hq; omega
    · have h3 := h.far hf q hq
      have h4 := h.open_ hf hi
      omega
theorem sw_open {P Q : Nat → Int} {N : Nat} {want : Int → Bool} {i i' : Nat} {R : Rs} {f p : Int} (h : swAt P Q N want i R f) (hs : ∀ i j, i ≤ j → j < N → P i ≤ P j) (hi : i < N) (hp : P i = p) (hi' : i < i') (hN : i' ≤ N)
    (hin : ∀ k, i ≤ k → k < i' → P k = p) (hnext : i' < N → p < P i') (hp0 : 0 ≤ p) (hw : want (preF Q i') = true) (hf : f < 0) : swAt P Q N want i' R p where
  norm := h.norm
  is := fun x hx => by
    rcases Int.lt_or_le x p with h1 | h1
    · rw [h.is x (fun _ => by omega)]
      constructor
      · rintro (h2 | h2)
        · exact .inl h2
        · omega
      · rintro (h2 | h2)
        · exact .inl h2
        · omega
    · obtain ⟨e, hn⟩ := sw_group h hs hi hp hi' hN hin hnext x hx h1
      rw [e]
      exact ⟨fun _ => .inr ⟨hp0, h1⟩, fun _ => hw⟩
  far := fun _ q hq => by have := h.near hf hi q hq; omega
  near := fun h1 => by omega
  open_ := fun _ h1 => hnext h1
  now := ⟨fun _ => hp0, fun _ => hw⟩
theorem sw_close {P Q : Nat → Int} {N : Nat} {want : Int → Bool} {i i' : Nat} {R : Rs} {f p : Int} (h : swAt P Q N want i R f) (hs : ∀ i j, i ≤ j → j < N → P i ≤ P j) (hi : i < N) (hp : P i = p) (hi' : i < i') (hN : i' ≤ N)
    (hin : ∀ k, i ≤ k → k < i' → P k = p) (hnext : i' < N → p < P i') (hw : want (preF Q i') = false) (hf : 0 ≤ f) : swAt P Q N want i' (R ++ [(f, p)]) (-1) where
  norm := norm_snoc h.norm (h.far hf) (by have := h.open_ hf hi; omega)
  is := fun x hx => by
    rw [inR_snoc]
    rcases Int.lt_or_le x p with h1 | h1
    · rw [h.is x (fun _ => by omega)]
      constructor
      · rintro (h2 | h2)
        · exact .inl (.inl h2)
        · exact .inl (.inr ⟨h2.2, h1⟩)
      · rintro ((h2 | h2) | h2)
        · exact .inl h2
        · exact .inr ⟨hf, h2.1⟩
        · omega
    · obtain ⟨e, hn⟩ := sw_group h hs hi hp hi' hN hin hnext x hx h1
      rw [e, hw]
      constructor
      · intro h2; cases h2
      · rintro ((h2 | h2) | h2)
        · exact absurd h2 hn
        · have := h2.2; simp only at this; omega
        · omega
  far := fun h1 => by omega
  near := fun _ h1 q hq => by
    have h2 := hnext h1
    rcases List.mem_append.1 hq with h3 | h3
    · have := h.far hf q h3; have := h.open_ hf hi; omega
    · rw [List.mem_singleton.1 h3]; exact h2
  open_ := fun h1 => by omega
  now := by
    rw [hw]
    constructor
    · intro h; cases h
    · intro h; omega
theorem sw_same {P Q : Nat → Int} {N : Nat} {want : Int → Bool} {i i' : Nat} {R : Rs} {f p : Int} (h : swAt P Q N want i R f) (hs : ∀ i j, i ≤ j → j < N → P i ≤ P j) (hi : i < N) (hp : P i = p) (hi' : i < i') (hN : i' ≤ N)
    (hin : ∀ k, i ≤ k → k < i' → P k = p) (hnext : i' < N → p < P i') (hw : want (preF Q i') = true ↔ 0 ≤ f) : swAt P Q N want i' R f where
  norm := h.norm
  is := fun x hx => by
    rcases Int.lt_or_le x p with h1 | h1
    · exact h.is x fun _ => by omega
    · obtain ⟨e, hn⟩ := sw_group h hs hi hp hi' hN hin hnext x hx h1
      rw [e, hw]
      constructor
      · intro hf; exact .inr ⟨hf, by have := h.open_ hf hi; omega⟩
      · rintro (h2 | h2)
        · exact absurd h2 hn
        · exact h2.1
  far := h.far
  near := fun hf h1 q hq => by have := h.near hf hi q hq; have := hnext h1; omega
  open_ := fun hf h1 => by have := h.open_ hf hi; have := hnext h1; omega
  now := hw
theorem sw_end {P Q : Nat → Int} {N : Nat} {want : Int → Bool} {R : Rs} {f : Int} (h : swAt P Q N want N R f) (hf : f < 0) : normR R ∧ ∀ x, want (depF P Q N x) = true ↔ inR R x :=
  ⟨h.norm, fun x => by
    rw [h.is x fun h => absurd h (Nat.lt_irrefl N)]
    constructor
    · rintro (h1 | h1)
      · exact h1
      · omega
    · exact .inl⟩
end Go.Proofs.Ythkgcbjfgglciaa.spans
