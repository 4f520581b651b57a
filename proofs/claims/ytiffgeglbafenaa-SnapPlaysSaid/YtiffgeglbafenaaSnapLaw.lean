/-
  Plain laws: both accounts of a move agree, and what holds of a state holds of the next.
-/
import Derived.Test.YtiffgeglbafenaaSnapPlain
namespace Go.Proofs.Ytiffgeglbafenaa.snap
set_option linter.unusedVariables false
theorem filter_none {n : Nat} {p : Nat → Bool} (h : ∀ b, b < n → p b = false) : (List.range n).filter p = [] := by
  rw [List.filter_eq_nil_iff]
  intro b hb
  rw [h b (List.mem_range.1 hb)]
  simp
theorem filter_one {n v : Nat} {p : Nat → Bool} (hv : v < n) (h1 : p v = true) (h2 : ∀ b, b < n → b ≠ v → p b = false) : (List.range n).filter p = [v] := by
  induction n with
  | zero => omega
  | succ n ih =>
    rw [List.range_succ, List.filter_append]
    by_cases e : v = n
    · subst e
      rw [filter_none (n := v) fun b hb => h2 b (by omega) (by omega)]
      simp [h1]
    · rw [ih (by omega) fun b hb he => h2 b (by omega) he]
      simp [h2 n (by omega) (fun e' => e e'.symm)]
theorem bool_and_not {a b : Bool} (h : a = b) : (a && !b) = false := by subst h; cases a <;> rfl
theorem gone_same {s s' : KS} (h : ∀ b, b < s.n → needed s b = needed s' b) : goneR s s' = [] := filter_none fun b hb => bool_and_not (h b hb)
theorem inv_tick {s : KS} (h : Inv s) : Inv { s with now := s.now + 1 } :=
  ⟨fun b hb => Nat.le_succ_of_le (h.bn b hb), fun i hi => Nat.le_succ_of_le (h.mn i hi), h.ne, h.mm, h.nu, h.nd, h.dd, h.du, h.dn, h.ll, h.n200, h.m9⟩
/-- a block more -/
theorem inv_born {s : KS} (h : Inv s) (hn : s.n < 200) : Inv { s with now := s.now + 1, n := s.n + 1, born := upd s.born s.n (s.now + 1), lives := upd s.lives s.n true } := by
  have hb : ∀ b, b < s.n → upd s.born s.n (s.now + 1) b = s.born b := fun b hb => upd_ne _ _ (by omega)
  have hl : ∀ b, b < s.n → upd s.lives s.n true b = s.lives b := fun b hb => upd_ne _ _ (by omega)
  refine ⟨fun b hb' => ?_, fun i hi => Nat.le_succ_of_le (h.mn i hi), fun b i hb' hi => ?_, h.mm, h.nu, h.nd, fun i b hi hd => ?_, h.du, h.dn, fun i b hi => ?_, hn, h.m9⟩
  · show upd s.born s.n (s.now + 1) b ≤ s.now + 1
    have hb' : b < s.n + 1 := hb'
    by_cases e : b = s.n
    · subst e; rw [upd_same]; exact Nat.le_refl _
    · rw [hb b (by omega)]; exact Nat.le_succ_of_le (h.bn b (by omega))
  · show upd s.born s.n (s.now + 1) b ≠ s.made i
    have hb' : b < s.n + 1 := hb'
    by_cases e : b = s.n
    · subst e; rw [upd_same]; have := h.mn i hi; omega
    · rw [hb b (by omega)]; exact h.ne b i (by omega) hi
  · obtain ⟨h1, h2, h3⟩ := h.dd i b hi hd
    exact ⟨Nat.lt_succ_of_lt h1, (hl b h1).trans h2, by show upd s.born s.n (s.now + 1) b < _; rw [hb b h1]; exact h3⟩
  · show b ∈ s.lst i ↔ b < s.n + 1 ∧ upd s.born s.n (s.now + 1) b < s.made i ∧ (upd s.lives s.n true b = true ∨ ∃ j, i ≤ j ∧ j < s.m ∧ b ∈ s.dead j)
    rw [h.ll i b hi]
    by_cases e : b = s.n
    · subst e
      rw [upd_same]
      have := h.mn i hi
      constructor
      · intro hx; omega
      · intro hx; omega
    · by_cases hlt : b < s.n
      · rw [hb b hlt, hl b hlt]
        constructor
        · rintro ⟨_, h2, h3⟩; exact ⟨by omega, h2, h3⟩
        · rintro ⟨_, h2, h3⟩; exact ⟨hlt, h2, h3⟩
      · constructor
        · intro hx; omega
        · intro hx; omega
/-- a block dies, and nobody needs it -/
theorem inv_loose {s : KS} (h : Inv s) {v : Nat} (hv : v < s.n) (hl : s.lives v = true) (hs : loose s v = true) : Inv { s with now := s.now + 1, lives := upd s.lives v false } ∧ ∀ i, i < s.m → v ∉ s.lst i := by
  have hno : ∀ i, i < s.m → ¬ s.born v < s.made i := fun i hi hlt => by
    unfold loose at hs
    rw [Bool.or_eq_true, decide_eq_true_eq, decide_eq_true_eq] at hs
    rcases hs with h1 | h1
    · omega
    · by_cases e : i = s.m - 1
      · subst e; omega
      · have := h.mm i (s.m - 1) (by omega) (by omega); omega
  refine ⟨⟨fun b hb => Nat.le_succ_of_le (h.bn b hb), fun i hi => Nat.le_succ_of_le (h.mn i hi), h.ne, h.mm, h.nu, h.nd, fun i b hi hd => ?_, h.du, h.dn, fun i b hi => ?_, h.n200, h.m9⟩, fun i hi hm => hno i hi ((h.ll i v hi).1 hm).2.1⟩
  · obtain ⟨h1, h2, h3⟩ := h.dd i b hi hd
    refine ⟨h1, ?_, h3⟩
    show upd s.lives v false b = false
    unfold upd
    split
    · rfl
    · exact h2
  · show b ∈ s.lst i ↔ b < s.n ∧ s.born b < s.made i ∧ (upd s.lives v false b = true ∨ ∃ j, i ≤ j ∧ j < s.m ∧ b ∈ s.dead j)
    rw [h.ll i b hi]
    by_cases e : b = v
    · subst e
      have := hno i hi
      constructor
      · intro hx; exact absurd hx.2.1 this
      · intro hx; exact absurd hx.2.1 this
    · rw [upd_ne _ _ e]
/-- a block dies, and a snapshot needs it -/
theorem inv_dies {s : KS} (h : Inv s) {v : Nat} (hv : v < s.n) (hl : s.lives v = true) (hs : loose s v = false) : 0 < s.m ∧ Inv { s with now := s.now + 1, lives := upd s.lives v false, dead := upd s.dead (s.m - 1) (s.dead (s.m - 1) ++ [v]) } := by
  unfold loose at hs
  rw [Bool.or_eq_false_iff, decide_eq_false_iff_not, decide_eq_false_iff_not] at hs
  obtain ⟨hm0, hbm⟩ := hs
  have hm1 : s.m - 1 < s.m := by omega
  have hlt : s.born v < s.made (s.m - 1) := by have := h.ne v (s.m - 1) hv hm1; omega
  have hvd : ∀ i, i < s.m → v ∉ s.dead i := fun i hi hd => by have := (h.dd i v hi hd).2.1; rw [hl] at this; cases this
  have hmem : ∀ i b, b ∈ upd s.dead (s.m - 1) (s.dead (s.m - 1) ++ [v]) i ↔ b ∈ s.dead i ∨ (i = s.m - 1 ∧ b = v) := fun i b => by
    by_cases e : i = s.m - 1
    · subst e
      rw [upd_same, List.mem_append, List.mem_singleton]
      simp
    · rw [upd_ne _ _ e]
      simp [e]
  refine ⟨by omega, ⟨fun b hb => Nat.le_succ_of_le (h.bn b hb), fun i hi => Nat.le_succ_of_le (h.mn i hi), h.ne, h.mm, h.nu, h.nd, fun i b hi hd => ?_, fun i j b hi hj h1 h2 => ?_, fun i hi => ?_, fun i b hi => ?_, h.n200, h.m9⟩⟩
  · show b < s.n ∧ upd s.lives v false b = false ∧ s.born b < s.made i
    rcases (hmem i b).1 hd with h1 | ⟨rfl, rfl⟩
    · obtain ⟨q1, q2, q3⟩ := h.dd i b hi h1
      refine ⟨q1, ?_, q3⟩
      unfold upd
      split
      · rfl
      · exact q2
    · exact ⟨hv, upd_same _ _ _, hlt⟩
  · rcases (hmem i b).1 h1 with q1 | ⟨rfl, rfl⟩
    · rcases (hmem j b).1 h2 with q2 | ⟨rfl, rfl⟩
      · exact h.du i j b hi hj q1 q2
      · exact absurd q1 (hvd i hi)
    · rcases (hmem j b).1 h2 with q2 | ⟨rfl, _⟩
      · exact absurd q2 (hvd j hj)
      · rfl
  · show (upd s.dead (s.m - 1) (s.dead (s.m - 1) ++ [v]) i).Nodup
    by_cases e : i = s.m - 1
    · subst e
      rw [upd_same, List.nodup_append]
      refine ⟨h.dn _ hi, by simp, fun a ha b hb => ?_⟩
      rw [List.mem_singleton] at hb
      subst hb
      intro e
      subst e
      exact hvd _ hi ha
    · rw [upd_ne _ _ e]
      exact h.dn i hi
  · show b ∈ s.lst i ↔ b < s.n ∧ s.born b < s.made i ∧ (upd s.lives v false b = true ∨ ∃ j, i ≤ j ∧ j < s.m ∧ b ∈ upd s.dead (s.m - 1) (s.dead (s.m - 1) ++ [v]) j)
    rw [h.ll i b hi]
    by_cases e : b = v
    · subst e
      constructor
      · rintro ⟨q1, q2, _⟩
        have hi : i < s.m := hi
        exact ⟨q1, q2, .inr ⟨s.m - 1, by omega, hm1, (hmem _ _).2 (.inr ⟨rfl, rfl⟩)⟩⟩
      · rintro ⟨q1, q2, _⟩
        exact ⟨q1, q2, .inl hl⟩
    · rw [upd_ne _ _ e]
      constructor
      · rintro ⟨q1, q2, q3⟩
        refine ⟨q1, q2, ?_⟩
        rcases q3 with q3 | ⟨j, q4, q5, q6⟩
        · exact .inl q3
        · exact .inr ⟨j, q4, q5, (hmem j b).2 (.inl q6)⟩
      · rintro ⟨q1, q2, q3⟩
        refine ⟨q1, q2, ?_⟩
        rcases q3 with q3 | ⟨j, q4, q5, q6⟩
        · exact .inl q3
        · rcases (hmem j b).1 q6 with q7 | ⟨_, q7⟩
          · exact .inr ⟨j, q4, q5, q7⟩
          · exact absurd q7 e
/-- a snapshot more -/
theorem inv_keep {s : KS} (h : Inv s) (hm : s.m < 9) : Inv { s with now := s.now + 1, m := s.m + 1, kept := s.kept + 1, num := upd s.num s.m s.kept, made := upd s.made s.m (s.now + 1), dead := upd s.dead s.m [], lst := upd s.lst s.m ((List.range s.n).filter fun b => s.lives b) } := by
  have hu : ∀ {α : Type} (f : Nat → α) (x : α) i, i < s.m → upd f s.m x i = f i := fun f x i hi => upd_ne _ _ (by omega)
  refine ⟨fun b hb => Nat.le_succ_of_le (h.bn b hb), fun i hi => ?_, fun b i hb hi => ?_, fun i j hij hj => ?_, fun i hi => ?_, fun i j hij hj => ?_, fun i b hi hd => ?_, fun i j b hi hj h1 h2 => ?_, fun i hi => ?_, fun i b hi => ?_, h.n200, hm⟩
  · have hi : i < s.m + 1 := hi
    show upd s.made s.m (s.now + 1) i ≤ s.now + 1
    by_cases e : i = s.m
    · subst e; rw [upd_same]; exact Nat.le_refl _
    · rw [hu _ _ i (by omega)]; exact Nat.le_succ_of_le (h.mn i (by omega))
  · have hi : i < s.m + 1 := hi
    show s.born b ≠ upd s.made s.m (s.now + 1) i
    by_cases e : i = s.m
    · subst e; rw [upd_same]; have := h.bn b hb; omega
    · rw [hu _ _ i (by omega)]; exact h.ne b i hb (by omega)
  · have hj : j < s.m + 1 := hj
    show upd s.made s.m (s.now + 1) i < upd s.made s.m (s.now + 1) j
    rw [hu _ _ i (by omega)]
    by_cases e : j = s.m
    · subst e; rw [upd_same]; have := h.mn i (by omega); omega
    · rw [hu _ _ j (by omega)]; exact h.mm i j hij (by omega)
  · have hi : i < s.m + 1 := hi
    show upd s.num s.m s.kept i < s.kept + 1
    by_cases e : i = s.m
    · subst e; rw [upd_same]; exact Nat.lt_succ_self _
    · rw [hu _ _ i (by omega)]; have := h.nu i (by omega); omega
  · have hj : j < s.m + 1 := hj
    show upd s.num s.m s.kept i < upd s.num s.m s.kept j
    rw [hu _ _ i (by omega)]
    by_cases e : j = s.m
    · subst e; rw [upd_same]; exact h.nu i (by omega)
    · rw [hu _ _ j (by omega)]; exact h.nd i j hij (by omega)
  · have hi : i < s.m + 1 := hi
    have hd : b ∈ upd s.dead s.m [] i := hd
    show _ ∧ _ ∧ s.born b < upd s.made s.m (s.now + 1) i
    by_cases e : i = s.m
    · subst e; rw [upd_same] at hd; cases hd
    · rw [hu _ _ i (by omega)] at hd ⊢; exact h.dd i b (by omega) hd
  · have hi : i < s.m + 1 := hi
    have hj : j < s.m + 1 := hj
    have h1 : b ∈ upd s.dead s.m [] i := h1
    have h2 : b ∈ upd s.dead s.m [] j := h2
    by_cases e : i = s.m
    · subst e; rw [upd_same] at h1; cases h1
    · by_cases e2 : j = s.m
      · subst e2; rw [upd_same] at h2; cases h2
      · rw [hu _ _ i (by omega)] at h1
        rw [hu _ _ j (by omega)] at h2
        exact h.du i j b (by omega) (by omega) h1 h2
  · have hi : i < s.m + 1 := hi
    show (upd s.dead s.m [] i).Nodup
    by_cases e : i = s.m
    · subst e; rw [upd_same]; exact List.nodup_nil
    · rw [hu _ _ i (by omega)]; exact h.dn i (by omega)
  · have hi : i < s.m + 1 := hi
    show b ∈ upd s.lst s.m ((List.range s.n).filter fun b => s.lives b) i ↔ b < s.n ∧ s.born b < upd s.made s.m (s.now + 1) i ∧ (s.lives b = true ∨ ∃ j, i ≤ j ∧ j < s.m + 1 ∧ b ∈ upd s.dead s.m [] j)
    by_cases e : i = s.m
    · subst e
      rw [upd_same, upd_same, List.mem_filter, List.mem_range]
      constructor
      · rintro ⟨q1, q2⟩
        exact ⟨q1, by have := h.bn b q1; omega, .inl q2⟩
      · rintro ⟨q1, _, q3⟩
        refine ⟨q1, ?_⟩
        rcases q3 with q3 | ⟨j, q4, q5, q6⟩
        · exact q3
        · have : j = s.m := by omega
          subst this
          rw [upd_same] at q6
          cases q6
    · rw [hu _ _ i (by omega), hu _ _ i (by omega), h.ll i b (by omega)]
      constructor
      · rintro ⟨q1, q2, q3⟩
        refine ⟨q1, q2, ?_⟩
        rcases q3 with q3 | ⟨j, q4, q5, q6⟩
        · exact .inl q3
        · exact .inr ⟨j, q4, by omega, by rw [hu _ _ j q5]; exact q6⟩
      · rintro ⟨q1, q2, q3⟩
        refine ⟨q1, q2, ?_⟩
        rcases q3 with q3 | ⟨j, q4, q5, q6⟩
        · exact .inl q3
        · by_cases e2 : j = s.m
          · subst e2; rw [upd_same] at q6; cases q6
          · rw [hu _ _ j (by omega)] at q6
            exact .inr ⟨j, q4, by omega, q6⟩
def sg (i j : Nat) : Nat := if j < i then j else j + 1
theorem cutAt_sg {α : Type} (f : Nat → α) (i j : Nat) : cutAt f i j = f (sg i j) := by unfold cutAt sg; split <;> rfl
theorem sg_lt {i j m : Nat} (hi : i < m) (hj : j < m - 1) : sg i j < m := by unfold sg; split <;> omega
theorem sg_ne (i j : Nat) : sg i j ≠ i := by unfold sg; split <;> omega
theorem sg_mono {i j k : Nat} (h : j < k) : sg i j < sg i k := by unfold sg; split <;> split <;> omega
theorem sg_inj {i j k : Nat} (h : sg i j = sg i k) : j = k := by unfold sg at h; split at h <;> split at h <;> omega
theorem sg_sur {i y m : Nat} (hi : i < m) (hy : y < m) (hne : y ≠ i) : ∃ z, z < m - 1 ∧ sg i z = y := by
  by_cases h : y < i
  · exact ⟨y, by omega, by unfold sg; rw [if_pos h]⟩
  · exact ⟨y - 1, by omega, by unfold sg; rw [if_neg (by omega)]; omega⟩
/-- the lists of what died, one snapshot dropped, ahead of the cut -/
def dead1 (s : KS) (i : Nat) : Nat → List Nat := if i = 0 then s.dead else upd s.dead (i - 1) (s.dead (i - 1) ++ (s.dead i).filter fun b => !goes s i b)
theorem dead1_mem {s : KS} {i x b : Nat} : b ∈ dead1 s i x ↔ b ∈ s.dead x ∨ (0 < i ∧ x = i - 1 ∧ b ∈ s.dead i ∧ goes s i b = false) := by
  unfold dead1
  by_cases h0 : i = 0
  · rw [if_pos h0]
    constructor
    · intro h; exact .inl h
    · rintro (h | h)
      · exact h
      · omega
  · rw [if_neg h0]
    by_cases e : x = i - 1
    · subst e
      rw [upd_same, List.mem_append, List.mem_filter]
      constructor
      · rintro (h | ⟨h1, h2⟩)
        · exact .inl h
        · exact .inr ⟨by omega, rfl, h1, by simpa using h2⟩
      · rintro (h | ⟨_, _, h1, h2⟩)
        · exact .inl h
        · exact .inr ⟨h1, by simpa using h2⟩
    · rw [upd_ne _ _ e]
      constructor
      · intro h; exact .inl h
      · rintro (h | ⟨_, h1, _⟩)
        · exact h
        · exact absurd h1 e
/-- a snapshot less -/
theorem inv_drop {s : KS} (h : Inv s) {i : Nat} (hi : i < s.m) : Inv { s with now := s.now + 1, m := s.m - 1, num := cutAt s.num i, made := cutAt s.made i, lst := cutAt s.lst i, dead := cutAt (dead1 s i) i } := by
  have goesF : ∀ b, b ∈ s.dead i → goes s i b = false → 0 < i ∧ s.born b < s.made (i - 1) := fun b hb hg => by
    unfold goes at hg
    rw [Bool.or_eq_false_iff, decide_eq_false_iff_not, decide_eq_false_iff_not] at hg
    have := h.ne b (i - 1) (h.dd i b hi hb).1 (by omega)
    omega
  refine ⟨fun b hb => Nat.le_succ_of_le (h.bn b hb), fun j hj => ?_, fun b j hb hj => ?_, fun j k hjk hk => ?_, fun j hj => ?_, fun j k hjk hk => ?_, fun j b hj hd => ?_, fun j k b hj hk h1 h2 => ?_, fun j hj => ?_, fun j b hj => ?_, h.n200, by have := h.m9; show s.m - 1 ≤ 9; omega⟩
  · show cutAt s.made i j ≤ s.now + 1
    rw [cutAt_sg]
    exact Nat.le_succ_of_le (h.mn _ (sg_lt hi hj))
  · show s.born b ≠ cutAt s.made i j
    rw [cutAt_sg]
    exact h.ne b _ hb (sg_lt hi hj)
  · show cutAt s.made i j < cutAt s.made i k
    rw [cutAt_sg, cutAt_sg]
    exact h.mm _ _ (sg_mono hjk) (sg_lt hi hk)
  · show cutAt s.num i j < s.kept
    rw [cutAt_sg]
    exact h.nu _ (sg_lt hi hj)
  · show cutAt s.num i j < cutAt s.num i k
    rw [cutAt_sg, cutAt_sg]
    exact h.nd _ _ (sg_mono hjk) (sg_lt hi hk)
  · have hd : b ∈ cutAt (dead1 s i) i j := hd
    show b < s.n ∧ s.lives b = false ∧ s.born b < cutAt s.made i j
    rw [cutAt_sg] at hd ⊢
    rcases dead1_mem.1 hd with q | ⟨q1, q2, q3, q4⟩
    · exact h.dd _ b (sg_lt hi hj) q
    · obtain ⟨r1, r2, r3⟩ := h.dd i b hi q3
      exact ⟨r1, r2, by rw [q2]; exact (goesF b q3 q4).2⟩
  · have h1 : b ∈ cutAt (dead1 s i) i j := h1
    have h2 : b ∈ cutAt (dead1 s i) i k := h2
    rw [cutAt_sg] at h1 h2
    apply sg_inj (i := i)
    rcases dead1_mem.1 h1 with q | ⟨q1, q2, q3, q4⟩
    · rcases dead1_mem.1 h2 with r | ⟨r1, r2, r3, r4⟩
      · exact h.du _ _ b (sg_lt hi hj) (sg_lt hi hk) q r
      · exact absurd (h.du _ _ b (sg_lt hi hj) hi q r3) (sg_ne i j)
    · rcases dead1_mem.1 h2 with r | ⟨r1, r2, r3, r4⟩
      · exact absurd (h.du _ _ b (sg_lt hi hk) hi r q3) (sg_ne i k)
      · omega
  · show (cutAt (dead1 s i) i j).Nodup
    rw [cutAt_sg]
    unfold dead1
    by_cases h0 : i = 0
    · rw [if_pos h0]
      exact h.dn _ (sg_lt hi hj)
    · rw [if_neg h0]
      by_cases e : sg i j = i - 1
      · rw [e, upd_same, List.nodup_append]
        refine ⟨h.dn _ (by omega), (h.dn i hi).filter _, fun a ha b hb => ?_⟩
        intro e2
        subst e2
        have := h.du (i - 1) i a (by omega) hi ha (List.mem_filter.1 hb).1
        omega
      · rw [upd_ne _ _ e]
        exact h.dn _ (sg_lt hi hj)
  · show b ∈ cutAt s.lst i j ↔ b < s.n ∧ s.born b < cutAt s.made i j ∧ (s.lives b = true ∨ ∃ z, j ≤ z ∧ z < s.m - 1 ∧ b ∈ cutAt (dead1 s i) i z)
    have hj : j < s.m - 1 := hj
    rw [cutAt_sg, cutAt_sg, h.ll _ b (sg_lt hi hj)]
    constructor
    · rintro ⟨q1, q2, q3⟩
      refine ⟨q1, q2, ?_⟩
      rcases q3 with q3 | ⟨y, q4, q5, q6⟩
      · exact .inl q3
      · by_cases e : y = i
        · subst e
          have hji : j < y := by unfold sg at q4; split at q4 <;> omega
          have hsj : sg y j = j := by unfold sg; rw [if_pos hji]
          rw [hsj] at q2
          have hle : s.made j ≤ s.made (y - 1) := by
            by_cases e2 : j = y - 1
            · subst e2; exact Nat.le_refl _
            · exact Nat.le_of_lt (h.mm _ _ (by omega) (by omega))
          refine .inr ⟨y - 1, by omega, by omega, ?_⟩
          rw [cutAt_sg, show sg y (y - 1) = y - 1 by unfold sg; rw [if_pos (by omega)]]
          refine dead1_mem.2 (.inr ⟨by omega, rfl, q6, ?_⟩)
          unfold goes
          rw [Bool.or_eq_false_iff, decide_eq_false_iff_not, decide_eq_false_iff_not]
          omega
        · obtain ⟨z, hz, hzy⟩ := sg_sur hi q5 e
          refine .inr ⟨z, ?_, hz, ?_⟩
          · rw [← hzy] at q4
            rcases Nat.lt_or_ge z j with h1 | h1
            · have := sg_mono (i := i) h1; omega
            · exact h1
          · rw [cutAt_sg, hzy]
            exact dead1_mem.2 (.inl q6)
    · rintro ⟨q1, q2, q3⟩
      refine ⟨q1, q2, ?_⟩
      rcases q3 with q3 | ⟨z, q4, q5, q6⟩
      · exact .inl q3
      · have hsz : sg i j ≤ sg i z := by
          rcases Nat.eq_or_lt_of_le q4 with e | e
          · rw [e]; exact Nat.le_refl _
          · exact Nat.le_of_lt (sg_mono e)
        rw [cutAt_sg] at q6
        rcases dead1_mem.1 q6 with r | ⟨r1, r2, r3, r4⟩
        · exact .inr ⟨sg i z, hsz, sg_lt hi q5, r⟩
        · exact .inr ⟨i, by omega, hi, r3⟩
/-- both accounts of what goes with a snapshot -/
theorem gone_drop {s : KS} (h : Inv s) {i : Nat} (hi : i < s.m) :
    ((List.range s.n).filter fun b => (s.dead i).contains b && goes s i b) = goneR s { s with now := s.now + 1, m := s.m - 1, num := cutAt s.num i, made := cutAt s.made i, lst := cutAt s.lst i, dead := cutAt (dead1 s i) i } := by
  have h' := inv_drop h hi
  unfold goneR
  apply List.filter_congr
  intro b hb
  have hb := List.mem_range.1 hb
  rw [Bool.eq_iff_iff, Bool.and_eq_true, Bool.and_eq_true, Bool.not_eq_true', List.contains_iff_mem, needed_iff h hb, ← Bool.not_eq_true, needed_iff h' hb]
  constructor
  · rintro ⟨h1, h2⟩
    refine ⟨.inr ⟨i, hi, h1⟩, ?_⟩
    rintro (h3 | ⟨z, h4, h5⟩)
    · have := (h.dd i b hi h1).2.1
      have h3 : s.lives b = true := h3
      rw [this] at h3
      cases h3
    · have h4 : z < s.m - 1 := h4
      have h5 : b ∈ cutAt (dead1 s i) i z := h5
      rw [cutAt_sg] at h5
      rcases dead1_mem.1 h5 with r | ⟨_, _, _, r4⟩
      · exact sg_ne i z (h.du _ _ b (sg_lt hi h4) hi r h1)
      · rw [r4] at h2; cases h2
  · rintro ⟨h1, h2⟩
    have hl : ¬ s.lives b = true := fun hl => h2 (.inl hl)
    rcases h1 with h1 | ⟨y, h3, h4⟩
    · exact absurd h1 hl
    · by_cases e : y = i
      · subst e
        refine ⟨h4, ?_⟩
        cases hg : goes s y b with
        | true => rfl
        | false =>
          exfalso
          have h0 : 0 < y := by
            unfold goes at hg
            rw [Bool.or_eq_false_iff, decide_eq_false_iff_not] at hg
            omega
          refine h2 (.inr ⟨y - 1, (by omega : y - 1 < s.m - 1), ?_⟩)
          show b ∈ cutAt (dead1 s y) y (y - 1)
          rw [cutAt_sg, show sg y (y - 1) = y - 1 by unfold sg; rw [if_pos (by omega)]]
          exact dead1_mem.2 (.inr ⟨h0, rfl, h4, hg⟩)
      · exfalso
        obtain ⟨z, hz, hzy⟩ := sg_sur hi h3 e
        refine h2 (.inr ⟨z, hz, ?_⟩)
        show b ∈ cutAt (dead1 s i) i z
        rw [cutAt_sg, hzy]
        exact dead1_mem.2 (.inl h4)
/-- THE LAW -/
theorem step_law {s : KS} (h : Inv s) (k w : Int) : Inv (nextK s k w) ∧ goneP s k w = goneR s (nextK s k w) := by
  unfold nextK goneP
  by_cases hc : codeK s k w = 0
  · rw [if_neg (show ¬ codeK s k w ≠ 0 by rw [hc]; simp), if_neg (show ¬ codeK s k w ≠ 0 by rw [hc]; simp)]
    by_cases h1 : k = 1
    · subst h1
      rw [if_pos rfl, if_neg (by decide), if_neg (by decide)]
      have hn : s.n < 200 := by
        unfold codeK at hc
        rw [if_pos rfl] at hc
        have := h.n200
        by_cases e : s.n = 200
        · rw [if_pos e] at hc; cases hc
        · omega
      refine ⟨inv_born h hn, (gone_same fun b hb => ?_).symm⟩
      show (s.lives b || _) = (upd s.lives s.n true b || _)
      rw [upd_ne _ _ (by omega)]
    · rw [if_neg (show ¬ k = 1 from h1)]
      by_cases h2 : k = 2
      · subst h2
        rw [if_pos rfl, if_pos rfl]
        unfold codeK at hc
        rw [if_neg (by decide), if_pos rfl] at hc
        have hv : 0 ≤ w ∧ w < s.n ∧ s.lives w.toNat = true := by
          by_cases e : 0 ≤ w ∧ w < s.n ∧ s.lives w.toNat = true
          · exact e
          · rw [if_neg e] at hc; cases hc
        obtain ⟨v1, v2, v3⟩ := hv
        have hv : w.toNat < s.n := by omega
        cases hs : loose s w.toNat with
        | true =>
          rw [if_pos (show true = true from rfl), if_pos (show true = true from rfl)]
          obtain ⟨i1, i2⟩ := inv_loose h hv v3 hs
          refine ⟨i1, (filter_one hv ?_ fun b hb hne => ?_).symm⟩
          · have e1 : needed s w.toNat = true := by unfold needed; rw [v3]; rfl
            have e2 : needed { s with now := s.now + 1, lives := upd s.lives w.toNat false } w.toNat = false := by
              unfold needed
              rw [Bool.or_eq_false_iff]
              refine ⟨upd_same _ _ _, ?_⟩
              rw [List.any_eq_false]
              intro i hi hm
              rw [List.contains_iff_mem] at hm
              exact i2 i (List.mem_range.1 hi) hm
            rw [e1, e2]
            rfl
          · apply bool_and_not
            show (s.lives b || _) = (upd s.lives w.toNat false b || _)
            rw [upd_ne _ _ hne]
        | false =>
          rw [if_neg (show ¬ false = true by decide), if_neg (show ¬ false = true by decide)]
          obtain ⟨hm0, i1⟩ := inv_dies h hv v3 hs
          refine ⟨i1, (gone_same fun b hb => ?_).symm⟩
          rw [Bool.eq_iff_iff, needed_iff h hb, needed_iff i1 hb]
          by_cases e : b = w.toNat
          · subst e
            constructor
            · intro _
              refine .inr ⟨s.m - 1, (by omega : s.m - 1 < s.m), ?_⟩
              show w.toNat ∈ upd s.dead (s.m - 1) (s.dead (s.m - 1) ++ [w.toNat]) (s.m - 1)
              rw [upd_same]
              simp
            · intro _; exact .inl v3
          · have hl : upd s.lives w.toNat false b = s.lives b := upd_ne _ _ e
            have hd : ∀ j, b ∈ upd s.dead (s.m - 1) (s.dead (s.m - 1) ++ [w.toNat]) j ↔ b ∈ s.dead j := fun j => by
              by_cases e2 : j = s.m - 1
              · subst e2
                rw [upd_same, List.mem_append, List.mem_singleton]
                simp [e]
              · rw [upd_ne _ _ e2]
            constructor
            · rintro (q | ⟨j, q1, q2⟩)
              · exact .inl (hl.trans q)
              · exact .inr ⟨j, q1, (hd j).2 q2⟩
            · rintro (q | ⟨j, q1, q2⟩)
              · exact .inl (hl.symm.trans q)
              · exact .inr ⟨j, q1, (hd j).1 q2⟩
      · rw [if_neg (show ¬ k = 2 from h2), if_neg (show ¬ k = 2 from h2)]
        by_cases h3 : k = 3
        · subst h3
          rw [if_pos (show (3 : Int) = 3 from rfl), if_neg (show ¬ (3 : Int) = 4 by decide)]
          have hm : s.m < 9 := by
            unfold codeK at hc
            rw [if_neg (by decide), if_neg (by decide), if_pos rfl] at hc
            have := h.m9
            by_cases e : s.m = 9
            · rw [if_pos e] at hc; cases hc
            · omega
          have i1 := inv_keep h hm
          refine ⟨i1, (gone_same fun b hb => ?_).symm⟩
          rw [Bool.eq_iff_iff, needed_iff h hb, needed_iff i1 hb]
          constructor
          · rintro (q | ⟨j, q1, q2⟩)
            · exact .inl q
            · refine .inr ⟨j, (by omega : j < s.m + 1), ?_⟩
              show b ∈ upd s.dead s.m [] j
              rw [upd_ne _ _ (by omega)]
              exact q2
          · rintro (q | ⟨j, q1, q2⟩)
            · exact .inl q
            · have q1 : j < s.m + 1 := q1
              have q2 : b ∈ upd s.dead s.m [] j := q2
              by_cases e : j = s.m
              · subst e; rw [upd_same] at q2; cases q2
              · rw [upd_ne _ _ e] at q2
                exact .inr ⟨j, by omega, q2⟩
        · rw [if_neg (show ¬ k = 3 from h3)]
          by_cases h4 : k = 4
          · subst h4
            rw [if_pos rfl]
            cases hf : find s.num w s.m with
            | none => exact ⟨inv_tick h, (gone_same fun _ _ => rfl).symm⟩
            | some i =>
              obtain ⟨hi, _⟩ := find_some hf
              exact ⟨inv_drop h hi, gone_drop h hi⟩
          · unfold codeK at hc
            rw [if_neg h1, if_neg h2, if_neg h3, if_neg h4] at hc
            cases hc
  · rw [if_pos hc, if_pos hc]
    exact ⟨inv_tick h, (gone_same fun _ _ => rfl).symm⟩
end Go.Proofs.Ytiffgeglbafenaa.snap
