/-
  Plain law: the ends of ranges, in order, are places between which nothing changes; what the two texts answer is the same.
-/
import Derived.Test.YthkgcbjfgglciaaSpanLaw2
import Derived.Test.YthkgcbjfgglciaaSpanDeep
namespace Go.Proofs.Ythkgcbjfgglciaa.spans
open Go.Proofs.Ythkgcbjfgglciaa.span

/-- all ends lie among the places -/
def endsIn (n : Nat) (F T : Nat → Int) (l : List Int) : Prop := ∀ j, j < n → F j ∈ l ∧ T j ∈ l
def plOf (l : List Int) (i : Nat) : Int := l.getD i 0
theorem plOf_lt {l : List Int} (h : upL l) {i j : Nat} (hij : i < j) (hj : j < l.length) : plOf l i < plOf l j := by
  have h1 := List.pairwise_iff_getElem.1 h i j (by omega) hj hij
  have e1 : plOf l i = l[i]'(by omega) := by simp [plOf, show i < l.length by omega]
  have e2 : plOf l j = l[j] := by simp [plOf, hj]
  rw [e1, e2]
  exact h1
theorem plOf_mem {l : List Int} {x : Int} (h : x ∈ l) : ∃ k, k < l.length ∧ x = plOf l k := by
  obtain ⟨k, hk, rfl⟩ := List.getElem_of_mem h
  exact ⟨k, hk, by simp [plOf, hk]⟩
theorem in_same {F T : Nat → Int} {l : List Int} (hu : upL l) {j : Nat} (hF : F j ∈ l) (hT : T j ∈ l) {i : Nat} (hi : i + 1 < l.length) {x : Int} (h1 : plOf l i ≤ x) (h2 : x < plOf l (i + 1)) : inB F T x j = inB F T (plOf l i) j := by
  obtain ⟨a, ha, eF⟩ := plOf_mem hF
  obtain ⟨b, hb, eT⟩ := plOf_mem hT
  have e1 : F j ≤ x ↔ F j ≤ plOf l i := by
    constructor
    · intro h
      rcases Nat.lt_or_ge i a with h3 | h3
      · rcases Nat.lt_or_ge (i + 1) a with h4 | h4
        · have := plOf_lt hu h4 ha; omega
        · have : a = i + 1 := by omega
          subst this; omega
      · rcases Nat.lt_or_ge a i with h4 | h4
        · have := plOf_lt hu h4 (by omega); omega
        · have : a = i := by omega
          subst this; omega
    · intro h; omega
  have e2 : x < T j ↔ plOf l i < T j := by
    constructor
    · intro h; omega
    · intro h
      rcases Nat.lt_or_ge i b with h3 | h3
      · rcases Nat.lt_or_ge (i + 1) b with h4 | h4
        · have := plOf_lt hu h4 hb; omega
        · have : b = i + 1 := by omega
          subst this; omega
      · rcases Nat.lt_or_ge b i with h4 | h4
        · have := plOf_lt hu h4 (by omega); omega
        · have : b = i := by omega
          subst this; omega
  unfold inB
  rw [decide_eq_decide.2 e1, decide_eq_decide.2 e2]
theorem any_congr {p q : Nat → Bool} {n : Nat} (h : ∀ j, j < n → p j = q j) : (List.range n).any p = (List.range n).any q := by
  rw [Bool.eq_iff_iff, List.any_eq_true, List.any_eq_true]
  constructor
  · rintro ⟨j, hj, h1⟩
    exact ⟨j, hj, by rw [← h j (List.mem_range.1 hj)]; exact h1⟩
  · rintro ⟨j, hj, h1⟩
    exact ⟨j, hj, by rw [h j (List.mem_range.1 hj)]; exact h1⟩
theorem has_same {n : Nat} {F T : Nat → Int} {l : List Int} (hu : upL l) (he : endsIn n F T l) {i : Nat} (hi : i + 1 < l.length) {x : Int} (h1 : plOf l i ≤ x) (h2 : x < plOf l (i + 1)) : hasB n F T x = hasB n F T (plOf l i) := by
  unfold hasB
  rw [any_congr fun j hj => in_same hu (he j hj).1 (he j hj).2 hi h1 h2]
theorem has_low {n : Nat} {F T : Nat → Int} {l : List Int} (hu : upL l) (he : endsIn n F T l) {x : Int} (hx : 0 < l.length → x < plOf l 0) : hasB n F T x = false := by
  unfold hasB
  rw [Bool.and_eq_false_iff]
  refine .inr (List.any_eq_false.2 fun j hj => ?_)
  obtain ⟨a, ha, eF⟩ := plOf_mem (he j (List.mem_range.1 hj)).1
  have h0 := hx (by omega)
  have : plOf l 0 ≤ F j := by
    rcases Nat.eq_zero_or_pos a with h | h
    · subst h; omega
    · have := plOf_lt hu h ha; omega
  unfold inB
  simp
  intro h
  omega
theorem has_high {n : Nat} {F T : Nat → Int} {l : List Int} (hu : upL l) (he : endsIn n F T l) {x : Int} (hl : 0 < l.length) (hx : plOf l (l.length - 1) ≤ x) : hasB n F T x = false := by
  unfold hasB
  rw [Bool.and_eq_false_iff]
  refine .inr (List.any_eq_false.2 fun j hj => ?_)
  obtain ⟨b, hb, eT⟩ := plOf_mem (he j (List.mem_range.1 hj)).2
  have : T j ≤ plOf l (l.length - 1) := by
    rcases Nat.lt_or_ge b (l.length - 1) with h | h
    · have := plOf_lt hu h (by omega); omega
    · have : b = l.length - 1 := by omega
      rw [← this, ← eT]; exact Int.le_refl _
  unfold inB
  simp
  intro _
  omega
/-- two sets, put together -/
theorem pl_of {n m : Nat} {F T G U : Nat → Int} {l : List Int} (op : Bool → Bool → Bool) (h0 : op false false = false) (hu : upL l) (h1 : endsIn n F T l) (h2 : endsIn m G U l) :
    plP (fun x => op (hasB n F T x) (hasB m G U x)) (plOf l) l.length where
  up := fun i hi => plOf_lt hu (by omega) hi
  same := fun i hi x a b => by rw [has_same hu h1 hi a b, has_same hu h2 hi a b]
  low := fun x hx => by rw [has_low hu h1 hx, has_low hu h2 hx, h0]
  high := fun x hl hx => by rw [has_high hu h1 hl hx, has_high hu h2 hl hx, h0]
end Go.Proofs.Ythkgcbjfgglciaa.spans
