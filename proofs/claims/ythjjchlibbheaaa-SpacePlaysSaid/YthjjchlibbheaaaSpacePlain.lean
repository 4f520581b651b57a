/-
  Plain laws of plays of a space.
-/
import Derived.Test.YthjjchlibbheaaaSpaceRuns
namespace Go.Proofs.Ythjjchlibbheaaa.space
open Go.RowKit Go.Proofs.Ythjjchlibbheaaa.kit
set_option linter.unusedVariables false

/-- how long the open run is -/
def rowN (k : Nat) : Option Nat → Nat
  | none => 0
  | some f => k - f
def els (a x : Option Nat) : Option Nat := match a with
  | some f => some f
  | none => x
def hitN (c k : Nat) (g : Option Nat) : Option Nat := if rowN k g = c then some (k - c) else none
theorem hit_none (c k : Nat) (hc : 1 ≤ c) : hitN c k none = none := by
  have h : ¬ rowN k none = c := by show ¬ 0 = c; omega
  unfold hitN; rw [if_neg h]
theorem hit_yes {c k f : Nat} (h : k - f = c) (hf : f ≤ k) : hitN c k (some f) = some f := by
  unfold hitN
  have h1 : rowN k (some f) = c := h
  rw [if_pos h1]; congr 1; omega
theorem hit_no {c k f : Nat} (h : ¬ k - f = c) : hitN c k (some f) = none := by
  unfold hitN
  have h1 : ¬ rowN k (some f) = c := h
  rw [if_neg h1]
/-- the first place where a run has come to a length -/
def takeAt (b : Nat → Bool) (c : Nat) : Nat → Option Nat
  | 0 => none
  | k + 1 => els (takeAt b c k) (hitN c (k + 1) (stN b (k + 1)).2)
/-- the first range that is as long -/
def lngP (c : Nat) (p : Nat × Nat) : Option Nat := if c ≤ p.2 - p.1 then some p.1 else none
theorem lng_yes {c f k : Nat} (h : c ≤ k - f) : lngP c (f, k) = some f := if_pos h
theorem lng_no {c f k : Nat} (h : ¬ c ≤ k - f) : lngP c (f, k) = none := if_neg h
def firstL (c : Nat) : List (Nat × Nat) → Option Nat
  | [] => none
  | p :: l => els (lngP c p) (firstL c l)
theorem firstL_app (c : Nat) (p : Nat × Nat) : ∀ l : List (Nat × Nat), firstL c (l ++ [p]) = els (firstL c l) (lngP c p)
  | [] => by
    show els (lngP c p) none = els none (lngP c p)
    cases lngP c p <;> rfl
  | q :: l => by
    have ih := firstL_app c p l
    show els (lngP c q) (firstL c (l ++ [p])) = els (els (lngP c q) (firstL c l)) (lngP c p)
    rw [ih]
    cases lngP c q <;> rfl
theorem take_first (b : Nat → Bool) (c : Nat) (hc : 1 ≤ c) : ∀ k, takeAt b c k = firstL c (listN b k)
  | 0 => rfl
  | k + 1 => by
    have ih := take_first b c hc k
    unfold listN at ih
    show els (takeAt b c k) (hitN c (k + 1) (stN b (k + 1)).2) = _
    unfold listN
    cases hs : stN b k with
    | mk o g =>
      rw [hs] at ih
      cases g with
      | none =>
        simp only [tlN, List.append_nil] at ih
        cases hb : b k with
        | false =>
          rw [step_nf hs hb]
          simp only [tlN, List.append_nil]
          rw [ih, hit_none c _ hc]
          cases firstL c o <;> rfl
        | true =>
          rw [step_nt hs hb]
          simp only [tlN]
          rw [firstL_app, ih]
          by_cases h1 : c = 1
          · rw [hit_yes (by omega) (by omega), lng_yes (by omega)]
          · rw [hit_no (by omega), lng_no (by omega)]
      | some f =>
        have hf := stN_fr b k f (by rw [hs])
        simp only [tlN] at ih
        rw [firstL_app] at ih
        cases hb : b k with
        | false =>
          rw [step_sf hs hb]
          simp only [tlN, List.append_nil]
          rw [firstL_app, ih, hit_none c _ hc]
          cases firstL c o with
          | some x => rfl
          | none => cases lngP c (f, k) <;> rfl
        | true =>
          rw [step_st hs hb]
          simp only [tlN]
          rw [firstL_app, ih]
          cases firstL c o with
          | some x => rfl
          | none =>
            by_cases h1 : c ≤ k - f
            · rw [lng_yes h1, lng_yes (k := k + 1) (by omega)]; rfl
            · rw [lng_no h1]
              by_cases h2 : k + 1 - f = c
              · rw [hit_yes h2 (by omega), lng_yes (by omega)]; rfl
              · rw [hit_no h2, lng_no (by omega)]; rfl
/-- a run is true all through -/
theorem list_true (b : Nat → Bool) : ∀ k, (∀ p ∈ listN b k, p.1 < p.2 ∧ p.2 ≤ k ∧ ∀ j, p.1 ≤ j → j < p.2 → b j = true)
  | 0, p, h => by simp [listN, stN, tlN] at h
  | k + 1, p, h => by
    have ih := list_true b k
    unfold listN at ih h
    cases hs : stN b k with
    | mk o g =>
      rw [hs] at ih
      cases g with
      | none =>
        simp only [tlN, List.append_nil] at ih
        cases hb : b k with
        | false =>
          rw [step_nf hs hb] at h
          simp only [tlN, List.append_nil] at h
          obtain ⟨h1, h2, h3⟩ := ih p h
          exact ⟨h1, by omega, h3⟩
        | true =>
          rw [step_nt hs hb] at h
          simp only [tlN, List.mem_append, List.mem_singleton] at h
          rcases h with h | rfl
          · obtain ⟨h1, h2, h3⟩ := ih p h
            exact ⟨h1, by omega, h3⟩
          · refine ⟨by simp, by simp, fun j h1 h2 => ?_⟩
            have : j = k := by simp at h1 h2; omega
            rw [this]; exact hb
      | some f =>
        simp only [tlN, List.mem_append, List.mem_singleton] at ih
        cases hb : b k with
        | false =>
          rw [step_sf hs hb] at h
          simp only [tlN, List.append_nil, List.mem_append, List.mem_singleton] at h
          obtain ⟨h1, h2, h3⟩ := ih p h
          exact ⟨h1, by omega, h3⟩
        | true =>
          rw [step_st hs hb] at h
          simp only [tlN, List.mem_append, List.mem_singleton] at h
          rcases h with h | rfl
          · obtain ⟨h1, h2, h3⟩ := ih p (.inl h)
            exact ⟨h1, by omega, h3⟩
          · obtain ⟨h1, h2, h3⟩ := ih (f, k) (.inr rfl)
            refine ⟨by simp at h1 ⊢; omega, by simp, fun j h4 h5 => ?_⟩
            by_cases hj : j < k
            · exact h3 j h4 hj
            · have : j = k := by simp at h5; omega
              rw [this]; exact hb
/-- what is true lies in a run -/
theorem true_list (b : Nat → Bool) : ∀ k j, j < k → b j = true → ∃ p ∈ listN b k, p.1 ≤ j ∧ j < p.2
  | 0, j, h, _ => absurd h (Nat.not_lt_zero j)
  | k + 1, j, h, hj => by
    have ih := true_list b k j
    unfold listN at ih ⊢
    cases hs : stN b k with
    | mk o g =>
      rw [hs] at ih
      cases g with
      | none =>
        simp only [tlN, List.append_nil] at ih
        cases hb : b k with
        | false =>
          have hjk : j < k := by
            rcases Nat.lt_or_ge j k with h1 | h1
            · exact h1
            · have : j = k := by omega
              rw [this, hb] at hj; cases hj
          rw [step_nf hs hb]
          simp only [tlN, List.append_nil]
          exact ih hjk hj
        | true =>
          rw [step_nt hs hb]
          simp only [tlN, List.mem_append, List.mem_singleton]
          by_cases hjk : j < k
          · obtain ⟨p, hp, h1⟩ := ih hjk hj
            exact ⟨p, .inl hp, h1⟩
          · exact ⟨(k, k + 1), .inr rfl, by simp; omega, by simp; omega⟩
      | some f =>
        have hf := stN_fr b k f (by rw [hs])
        simp only [tlN, List.mem_append, List.mem_singleton] at ih
        cases hb : b k with
        | false =>
          have hjk : j < k := by
            rcases Nat.lt_or_ge j k with h1 | h1
            · exact h1
            · have : j = k := by omega
              rw [this, hb] at hj; cases hj
          rw [step_sf hs hb]
          simp only [tlN, List.append_nil, List.mem_append, List.mem_singleton]
          exact ih hjk hj
        | true =>
          rw [step_st hs hb]
          simp only [tlN, List.mem_append, List.mem_singleton]
          by_cases hjk : j < k
          · obtain ⟨p, hp | rfl, h1⟩ := ih hjk hj
            · exact ⟨p, .inl hp, h1⟩
            · exact ⟨(f, k + 1), .inr rfl, h1.1, by simp; omega⟩
          · exact ⟨(f, k + 1), .inr rfl, by simp; omega, by simp; omega⟩
/-- how many units are so -/
def cntU (x : Nat) (u : Nat → Nat) : Nat → Nat
  | 0 => 0
  | k + 1 => cntU x u k + if u k = x then 1 else 0
theorem cntU_le (x : Nat) (u : Nat → Nat) : ∀ k, cntU x u k ≤ k
  | 0 => Nat.le_refl 0
  | k + 1 => by have := cntU_le x u k; unfold cntU; split <;> omega
theorem cntU_congr (x : Nat) (u v : Nat → Nat) : ∀ k, (∀ j, j < k → u j = v j) → cntU x u k = cntU x v k
  | 0, _ => rfl
  | k + 1, h => by unfold cntU; rw [cntU_congr x u v k fun j hj => h j (by omega), h k (by omega)]
def sumL (l : List (Nat × Nat)) : Nat := (l.map fun p => p.2 - p.1).sum
theorem sumL_app (l m : List (Nat × Nat)) : sumL (l ++ m) = sumL l + sumL m := by simp [sumL]
theorem sum_cnt (x : Nat) (u : Nat → Nat) : ∀ k, sumL (listN (fun i => decide (u i = x)) k) = cntU x u k
  | 0 => rfl
  | k + 1 => by
    have ih := sum_cnt x u k
    generalize hB : (fun i => decide (u i = x)) = b at ih ⊢
    unfold listN at ih ⊢
    unfold cntU
    cases hs : stN b k with
    | mk o g =>
      rw [hs] at ih
      have hbk : b k = decide (u k = x) := by rw [← hB]
      cases g with
      | none =>
        simp only [tlN, List.append_nil] at ih
        by_cases hx : u k = x
        · rw [step_nt hs (by rw [hbk]; exact decide_eq_true hx), if_pos hx]
          simp only [tlN, sumL_app]
          rw [ih]; simp [sumL]
        · rw [step_nf hs (by rw [hbk]; exact decide_eq_false hx), if_neg hx]
          simp only [tlN, List.append_nil]
          rw [ih]; rfl
      | some f =>
        have hf := stN_fr b k f (by rw [hs])
        simp only [tlN, sumL_app] at ih
        by_cases hx : u k = x
        · rw [step_st hs (by rw [hbk]; exact decide_eq_true hx), if_pos hx]
          simp only [tlN, sumL_app]
          rw [← ih]; simp [sumL]; omega
        · rw [step_sf hs (by rw [hbk]; exact decide_eq_false hx), if_neg hx]
          simp only [tlN, List.append_nil, sumL_app]
          rw [← ih]; rfl
/-- free units that are taken -/
theorem cnt_take (u : Nat → Nat) (f t : Nat) (hft : f ≤ t) (hu : ∀ j, f ≤ j → j < t → u j = 0) : ∀ k, t ≤ k → cntU 0 (setU u f t 1) k + (t - f) = cntU 0 u k := by
  have low : ∀ k, k ≤ t → cntU 0 (setU u f t 1) k + (k - f) = cntU 0 u k := by
    intro k
    induction k with
    | zero => intro _; simp [cntU]
    | succ k ih =>
      intro hk
      have ih := ih (by omega)
      unfold cntU
      by_cases hfk : f ≤ k
      · have e : setU u f t 1 k = 1 := by unfold setU; rw [if_pos ⟨hfk, by omega⟩]
        rw [e, hu k hfk (by omega)]
        simp; omega
      · have e : setU u f t 1 k = u k := by unfold setU; rw [if_neg (by omega)]
        rw [e]; omega
  intro k
  induction k with
  | zero =>
    intro h
    have := low 0 (by omega)
    rw [show t - f = 0 - f by omega]; exact this
  | succ k ih =>
    intro h
    by_cases hk : t ≤ k
    · have ih := ih hk
      have e : setU u f t 1 k = u k := by unfold setU; rw [if_neg (by omega)]
      unfold cntU
      rw [e]; omega
    · have : k + 1 = t := by omega
      rw [this]; exact low t (Nat.le_refl t)
/-- a commit -/
def cmU (u : Nat → Nat) : Nat → Nat := fun j => if u j = 2 then 3 else if u j = 3 then 0 else u j
theorem cnt_commit (u : Nat → Nat) : ∀ k, cntU 0 (cmU u) k = cntU 0 u k + cntU 3 u k
  | 0 => rfl
  | k + 1 => by
    have ih := cnt_commit u k
    unfold cntU
    rw [ih]
    unfold cmU
    by_cases h2 : u k = 2
    · simp [h2]
    · by_cases h3 : u k = 3
      · simp [h3]; omega
      · by_cases h0 : u k = 0
        · simp [h0]; omega
        · simp [h2, h3, h0]
theorem cnt_give (u : Nat → Nat) (f t : Nat) (hu : ∀ j, f ≤ j → j < t → u j = 1) : ∀ k, cntU 0 (setU u f t 2) k = cntU 0 u k
  | 0 => rfl
  | k + 1 => by
    have ih := cnt_give u f t hu k
    unfold cntU
    rw [ih]
    unfold setU
    by_cases h : f ≤ k ∧ k < t
    · rw [if_pos h, hu k h.1 h.2]; simp
    · rw [if_neg h]
end Go.Proofs.Ythjjchlibbheaaa.space
