/-
  Plain laws of the reference's lists: where a name stands; one put, one left out, by a loop.
-/
import Derived.Test.YtmpaheaedaeakaaPoolPlain
namespace Go.Proofs.Ytmpaheaedaeakaa.pool
set_option linter.unusedVariables false
/-- number i -/
def nth {α : Type} [Inhabited α] (l : List (Nm × α)) (i : Nat) : Nm × α := l.getD i default
instance : Inhabited By := ⟨By.none⟩
section
variable {α : Type}
/-- the loop that puts one: what it has, and whether it is in -/
def wst (x : Nm) (v : α) (acc : List (Nm × α) × Bool) (y : Nm × α) : List (Nm × α) × Bool :=
  let a1 := if acc.2 = false ∧ x ≤ y.1 then (acc.1 ++ [(x, v)], true) else acc
  (if y.1 ≠ x then a1.1 ++ [y] else a1.1, a1.2)
theorem wst_in {x : Nm} {v : α} : ∀ (l : List (Nm × α)) (acc : List (Nm × α)), (∀ p, p ∈ l → x < p.1) → l.foldl (wst x v) (acc, true) = (acc ++ l, true)
  | [], acc, _ => by simp
  | p :: l, acc, h => by
    have h1 : x < p.1 := h p (List.mem_cons_self ..)
    have hne : p.1 ≠ x := fun e => nm_irrefl x (by rw [e] at h1; exact h1)
    have e1 : wst x v (acc, true) p = (acc ++ [p], true) := by
      unfold wst
      simp only [Bool.true_eq_false, false_and, if_false]
      rw [if_pos hne]
    rw [List.foldl_cons, e1, wst_in l _ fun q hq => h q (List.mem_cons_of_mem _ hq)]
    simp
/-- put where it is not: what is below, it, what is above -/
theorem put_split {l : List (Nm × α)} (hs : Asc l) {x : Nm} {v : α} (h : get l x = none) : put l x v = (l.filter fun p => decide (p.1 < x)) ++ (x, v) :: l.filter fun p => decide (x < p.1) := by
  induction l with
  | nil => rfl
  | cons p l ih =>
    have h1 := List.pairwise_cons.1 hs
    unfold get at h
    split at h
    · cases h
    · rename_i hne
      unfold put
      by_cases hlt : x < p.1
      · rw [if_pos hlt]
        have hlo : ∀ q, q ∈ p :: l → ¬ q.1 < x := fun q hq h2 => by
          rcases List.mem_cons.1 hq with rfl | hq
          · exact nm_irrefl _ (nm_trans h2 hlt)
          · exact nm_irrefl _ (nm_trans (nm_trans h2 hlt) (h1.1 q hq))
        have hhi : ∀ q, q ∈ p :: l → x < q.1 := fun q hq => by
          rcases List.mem_cons.1 hq with rfl | hq
          · exact hlt
          · exact nm_trans hlt (h1.1 q hq)
        rw [List.filter_eq_nil_iff.2 (fun q hq => by simp [hlo q hq]), List.filter_eq_self.2 (fun q hq => by simp [hhi q hq])]
        rfl
      · rw [if_neg hlt, if_neg hne, ih h1.2 h]
        have hlt2 : p.1 < x := by
          by_cases h2 : p.1 < x
          · exact h2
          · exact absurd (nm_tri h2 hlt) hne
        rw [List.filter_cons_of_pos (by simpa using hlt2), List.filter_cons_of_neg (by simpa using hlt)]
        rfl
theorem wsum_put {x : Nm} {v : α} : ∀ (l : List (Nm × α)) (acc : List (Nm × α)), Asc l → (let r := l.foldl (wst x v) (acc, false); if r.2 = true then r.1 else r.1 ++ [(x, v)]) = acc ++ put l x v
  | [], acc, _ => by simp [put]
  | p :: l, acc, hs => by
    have h1 := List.pairwise_cons.1 hs
    rw [List.foldl_cons]
    unfold put
    by_cases hlt : x < p.1
    · have hne : p.1 ≠ x := fun e => nm_irrefl x (by rw [e] at hlt; exact hlt)
      have e1 : wst x v (acc, false) p = (acc ++ [(x, v)] ++ [p], true) := by
        unfold wst
        rw [if_pos ⟨rfl, List.le_of_lt hlt⟩]
        simp only
        rw [if_pos hne]
      rw [e1, if_pos hlt]
      dsimp only
      rw [wst_in l _ fun q hq => nm_trans hlt (h1.1 q hq)]
      simp
    · rw [if_neg hlt]
      by_cases he : p.1 = x
      · have e1 : wst x v (acc, false) p = (acc ++ [(x, v)], true) := by
          unfold wst
          rw [if_pos ⟨rfl, by rw [he]; exact List.le_refl _⟩]
          simp only
          rw [if_neg (by simp [he])]
        rw [e1, if_pos he]
        dsimp only
        rw [wst_in l _ fun q hq => by rw [← he]; exact h1.1 q hq]
        simp
      · have e1 : wst x v (acc, false) p = (acc ++ [p], false) := by
          unfold wst
          rw [if_neg fun hh => he (List.le_antisymm (show p.1 ≤ x from by
            rw [List.le_iff_lt_or_eq]
            by_cases h2 : p.1 < x
            · exact .inl h2
            · exact .inr (nm_tri h2 hlt)) hh.2)]
          simp only
          rw [if_pos he]
        rw [e1, if_neg he, wsum_put l _ h1.2]
        simp
def wsum (x : Nm) (v : α) (l : List (Nm × α)) : List (Nm × α) × Bool := l.foldl (wst x v) ([], false)
theorem wsum_end {x : Nm} {v : α} {l : List (Nm × α)} (hs : Asc l) : (if (wsum x v l).2 = true then (wsum x v l).1 else (wsum x v l).1 ++ [(x, v)]) = put l x v := by
  have := wsum_put (x := x) (v := v) l [] hs
  rw [List.nil_append] at this
  exact this
end
section
variable {α : Type} [Inhabited α]
theorem nth_mem {l : List (Nm × α)} {i : Nat} (h : i < l.length) : nth l i ∈ l := by
  unfold nth
  rw [List.getD, List.getElem?_eq_getElem h]
  exact List.getElem_mem h
theorem nth_of {l : List (Nm × α)} {p : Nm × α} (h : p ∈ l) : ∃ i, i < l.length ∧ nth l i = p := by
  obtain ⟨i, hi, rfl⟩ := List.mem_iff_getElem.1 h
  refine ⟨i, hi, ?_⟩
  unfold nth
  rw [List.getD, List.getElem?_eq_getElem hi]
  rfl
theorem take_more {β : Type} (l : List β) (d : β) {i : Nat} (h : i < l.length) : l.take (i + 1) = l.take i ++ [l.getD i d] := by
  rw [List.take_add_one, List.getElem?_eq_getElem h, Option.toList_some]
  congr 2
  rw [List.getD, List.getElem?_eq_getElem h]
  rfl
theorem get_none_iff {l : List (Nm × α)} {x : Nm} : get l x = none ↔ ∀ i, i < l.length → (nth l i).1 ≠ x := by
  constructor
  · intro h i hi e
    have : (get l x).isSome = true := get_isSome.2 ⟨_, nth_mem hi, e⟩
    rw [h] at this
    cases this
  · intro h
    refine get_none fun p hp => ?_
    obtain ⟨i, hi, rfl⟩ := nth_of hp
    exact h i hi
theorem get_at {l : List (Nm × α)} (hs : Asc l) {i : Nat} (h : i < l.length) : get l (nth l i).1 = some (nth l i).2 := get_mem hs (nth_mem h)
theorem nth_inj {l : List (Nm × α)} (hs : Asc l) {i j : Nat} (hi : i < l.length) (hj : j < l.length) (h : (nth l i).1 = (nth l j).1) : i = j := by
  have key : ∀ a b, a < b → b < l.length → (nth l a).1 < (nth l b).1 := fun a b hab hb => by
    have := List.pairwise_iff_getElem.1 hs a b (by omega) hb hab
    unfold nth
    rw [List.getD, List.getD, List.getElem?_eq_getElem (show a < l.length by omega), List.getElem?_eq_getElem hb]
    exact this
  rcases Nat.lt_trichotomy i j with h1 | h1 | h1
  · exact absurd (key i j h1 hj) (by rw [h]; exact nm_irrefl _)
  · exact h1
  · exact absurd (key j i h1 hi) (by rw [h]; exact nm_irrefl _)
theorem wsum_more (x : Nm) (v : α) (l : List (Nm × α)) {i : Nat} (h : i < l.length) : wsum x v (l.take (i + 1)) = wst x v (wsum x v (l.take i)) (nth l i) := by
  unfold wsum nth
  rw [take_more l default h, List.foldl_append]
  rfl
theorem del_more (l : List (Nm × α)) (x : Nm) {i : Nat} (h : i < l.length) : del (l.take (i + 1)) x = del (l.take i) x ++ (if (nth l i).1 = x then [] else [nth l i]) := by
  unfold del nth
  rw [take_more l default h, List.filter_append]
  congr 1
  generalize l.getD i default = y
  by_cases e : y.1 = x
  · rw [if_pos e]; simp [e]
  · rw [if_neg e]; simp [e]
/-- without number i -/
theorem del_at {l : List (Nm × α)} (hs : Asc l) {i : Nat} (h : i < l.length) : del l (nth l i).1 = l.take i ++ l.drop (i + 1) := by
  have e : l = l.take i ++ nth l i :: l.drop (i + 1) := by
    have h2 := (List.take_append_drop i l).symm
    rw [List.drop_eq_getElem_cons h] at h2
    have h3 : nth l i = l[i] := by
      unfold nth
      rw [List.getD, List.getElem?_eq_getElem h]
      rfl
    rw [h3]
    exact h2
  have hs2 := hs
  rw [e] at hs2
  have h3 := List.pairwise_append.1 hs2
  have h4 := List.pairwise_cons.1 h3.2.1
  conv => lhs; rw [e]
  unfold del
  rw [List.filter_append, List.filter_cons_of_neg (by simp [← e])]
  congr 1
  · refine List.filter_eq_self.2 fun q hq => ?_
    have := h3.2.2 q hq (nth l i) (List.mem_cons_self ..)
    rw [← e]
    simp only [Bool.not_eq_true', decide_eq_false_iff_not]
    intro e'
    rw [e'] at this
    exact nm_irrefl _ this
  · refine List.filter_eq_self.2 fun q hq => ?_
    have := h4.1 q hq
    rw [← e]
    simp only [Bool.not_eq_true', decide_eq_false_iff_not]
    intro e'
    rw [e'] at this
    exact nm_irrefl _ this
end
end Go.Proofs.Ytmpaheaedaeakaa.pool
