/-
  Plain laws: what a pool has (names, ascending, with what they name), and what a command does.
-/
import Derived.Test.YtmpaheaedaeakaaKit
namespace Go.Proofs.Ytmpaheaedaeakaa.pool
set_option linter.unusedVariables false
abbrev Nm := List UInt8
/-- bytes: how many, which -/
structure By where
  n : Nat
  f : Nat → Nat
abbrev Ths := List (Nm × By)
structure PS where
  ths : Ths
  shs : List (Nm × Ths)
def PS.start : PS := ⟨[], []⟩
def By.none : By := ⟨0, fun _ => 0⟩
theorem nm_irrefl (a : Nm) : ¬ a < a := List.lt_irrefl a
theorem nm_trans {a b c : Nm} (h : a < b) (k : b < c) : a < c := List.lt_trans h k
theorem nm_tri {a b : Nm} (h : ¬ a < b) (k : ¬ b < a) : a = b := List.le_antisymm k h
section
variable {α : Type}
def get : List (Nm × α) → Nm → Option α
  | [], _ => none
  | p :: l, x => if p.1 = x then some p.2 else get l x
def put : List (Nm × α) → Nm → α → List (Nm × α)
  | [], x, v => [(x, v)]
  | p :: l, x, v => if x < p.1 then (x, v) :: p :: l else if p.1 = x then (x, v) :: l else p :: put l x v
def del (l : List (Nm × α)) (x : Nm) : List (Nm × α) := l.filter fun p => !decide (p.1 = x)
/-- names ascend -/
def Asc (l : List (Nm × α)) : Prop := l.Pairwise fun p q => p.1 < q.1
theorem get_none {l : List (Nm × α)} {x : Nm} (h : ∀ p, p ∈ l → p.1 ≠ x) : get l x = none := by
  induction l with
  | nil => rfl
  | cons p l ih =>
    unfold get
    rw [if_neg (h p (List.mem_cons_self ..))]
    exact ih fun q hq => h q (List.mem_cons_of_mem _ hq)
theorem get_some {l : List (Nm × α)} {x : Nm} {v : α} (h : get l x = some v) : (x, v) ∈ l := by
  induction l with
  | nil => cases h
  | cons p l ih =>
    unfold get at h
    split at h
    · rename_i e
      cases h
      subst e
      exact List.mem_cons_self ..
    · exact List.mem_cons_of_mem _ (ih h)
theorem get_isSome {l : List (Nm × α)} {x : Nm} : (get l x).isSome = true ↔ ∃ p, p ∈ l ∧ p.1 = x := by
  constructor
  · intro h
    cases hg : get l x with
    | none => rw [hg] at h; cases h
    | some v => exact ⟨_, get_some hg, rfl⟩
  · rintro ⟨p, hp, he⟩
    cases hg : get l x with
    | some v => rfl
    | none =>
      exfalso
      induction l with
      | nil => cases hp
      | cons q l ih =>
        unfold get at hg
        split at hg
        · cases hg
        · rename_i hne
          rcases List.mem_cons.1 hp with rfl | hp
          · exact hne he
          · exact ih hp hg
theorem get_mem {l : List (Nm × α)} (hs : Asc l) {p : Nm × α} (hp : p ∈ l) : get l p.1 = some p.2 := by
  induction l with
  | nil => cases hp
  | cons q l ih =>
    have h1 := List.pairwise_cons.1 hs
    unfold get
    rcases List.mem_cons.1 hp with rfl | hp
    · rw [if_pos rfl]
    · rw [if_neg fun e => nm_irrefl q.1 (by have := h1.1 p hp; rw [e] at this ⊢; exact this)]
      exact ih h1.2 hp
theorem put_mem {l : List (Nm × α)} {x : Nm} {v : α} : ∀ {p : Nm × α}, p ∈ put l x v → p = (x, v) ∨ p ∈ l := by
  induction l with
  | nil => intro p h; exact .inl (List.mem_singleton.1 h)
  | cons q l ih =>
    intro p h
    unfold put at h
    split at h
    · rcases List.mem_cons.1 h with h | h
      · exact .inl h
      · exact .inr h
    · split at h
      · rcases List.mem_cons.1 h with h | h
        · exact .inl h
        · exact .inr (List.mem_cons_of_mem _ h)
      · rcases List.mem_cons.1 h with h | h
        · exact .inr (by rw [h]; exact List.mem_cons_self ..)
        · rcases ih h with h | h
          · exact .inl h
          · exact .inr (List.mem_cons_of_mem _ h)
theorem put_asc {l : List (Nm × α)} (hs : Asc l) (x : Nm) (v : α) : Asc (put l x v) := by
  induction l with
  | nil => exact List.pairwise_singleton _ _
  | cons q l ih =>
    have h1 := List.pairwise_cons.1 hs
    unfold put
    split
    · rename_i hlt
      refine List.pairwise_cons.2 ⟨fun p hp => ?_, hs⟩
      rcases List.mem_cons.1 hp with rfl | hp
      · exact hlt
      · exact nm_trans hlt (h1.1 p hp)
    · split
      · rename_i he
        exact List.pairwise_cons.2 ⟨fun p hp => by rw [← he]; exact h1.1 p hp, h1.2⟩
      · rename_i hlt hne
        refine List.pairwise_cons.2 ⟨fun p hp => ?_, ih h1.2⟩
        rcases put_mem hp with rfl | hp
        · by_cases h : q.1 < x
          · exact h
          · exact absurd (nm_tri hlt h).symm hne
        · exact h1.1 p hp
theorem get_put_same (l : List (Nm × α)) (x : Nm) (v : α) : get (put l x v) x = some v := by
  induction l with
  | nil => simp [put, get]
  | cons q l ih =>
    unfold put
    split
    · simp [get]
    · split
      · simp [get]
      · rename_i hne
        simp [get, hne, ih]
theorem get_put_other {l : List (Nm × α)} {x y : Nm} (h : y ≠ x) (v : α) : get (put l x v) y = get l y := by
  induction l with
  | nil => simp [put, get, Ne.symm h]
  | cons q l ih =>
    unfold put
    split
    · simp [get, Ne.symm h]
    · split
      · rename_i he
        simp [get, Ne.symm h, he]
      · simp [get, ih]
theorem put_length_new {l : List (Nm × α)} {x : Nm} (v : α) (h : get l x = none) : (put l x v).length = l.length + 1 := by
  induction l with
  | nil => rfl
  | cons q l ih =>
    unfold get at h
    split at h
    · cases h
    · rename_i hne
      unfold put
      split
      · rfl
      · first
          | rw [if_neg hne, List.length_cons, ih h, List.length_cons]
          | rw [List.length_cons, ih h, List.length_cons]
theorem put_length_old {l : List (Nm × α)} (hs : Asc l) {x : Nm} (v : α) (h : (get l x).isSome = true) : (put l x v).length = l.length := by
  induction l with
  | nil => cases h
  | cons q l ih =>
    have h1 := List.pairwise_cons.1 hs
    unfold put
    split
    · rename_i hlt
      obtain ⟨p, hp, he⟩ := get_isSome.1 h
      exfalso
      rcases List.mem_cons.1 hp with rfl | hp
      · rw [he] at hlt; exact nm_irrefl _ hlt
      · have := h1.1 p hp
        rw [he] at this
        exact nm_irrefl _ (nm_trans hlt this)
    · split
      · rfl
      · rename_i hne
        unfold get at h
        rw [if_neg hne] at h
        rw [List.length_cons, ih h1.2 h, List.length_cons]
theorem get_del_same (l : List (Nm × α)) (x : Nm) : get (del l x) x = none :=
  get_none fun p hp => by
    have := (List.mem_filter.1 hp).2
    simpa using this
theorem get_del_other {l : List (Nm × α)} {x y : Nm} (h : y ≠ x) : get (del l x) y = get l y := by
  induction l with
  | nil => rfl
  | cons q l ih =>
    unfold del at ih ⊢
    by_cases e : q.1 = x
    · rw [List.filter_cons_of_neg (by simp [e]), ih]
      have : q.1 ≠ y := fun e' => h (by rw [← e', e])
      simp [get, this]
    · rw [List.filter_cons_of_pos (by simp [e])]
      simp [get, ih]
theorem del_asc {l : List (Nm × α)} (hs : Asc l) (x : Nm) : Asc (del l x) := List.Pairwise.filter _ hs
theorem del_length {l : List (Nm × α)} (hs : Asc l) {x : Nm} (h : (get l x).isSome = true) : (del l x).length + 1 = l.length := by
  induction l with
  | nil => cases h
  | cons q l ih =>
    have h1 := List.pairwise_cons.1 hs
    unfold del at ih ⊢
    by_cases e : q.1 = x
    · rw [List.filter_cons_of_neg (by simp [e]), List.filter_eq_self.2 fun p hp => ?_, List.length_cons]
      have := h1.1 p hp
      rw [e] at this
      simp only [Bool.not_eq_true', decide_eq_false_iff_not]
      intro e'
      rw [e'] at this
      exact nm_irrefl _ this
    · rw [List.filter_cons_of_pos (by simp [e]), List.length_cons, List.length_cons]
      unfold get at h
      rw [if_neg e] at h
      rw [ih h1.2 h]
theorem names_nodup {l : List (Nm × α)} (hs : Asc l) : (l.map (·.1)).Nodup := by
  unfold List.Nodup
  rw [List.pairwise_map]
  exact List.Pairwise.imp (R := fun p q : Nm × α => p.1 < q.1) (S := fun p q => p.1 ≠ q.1) (fun {a b} h e => nm_irrefl b.1 (by rw [e] at h; exact h)) hs
end
/-- may it be a name -/
def okB (c : UInt8) : Bool := (decide (97 ≤ c.toNat) && decide (c.toNat ≤ 122)) || (decide (48 ≤ c.toNat) && decide (c.toNat ≤ 57))
def goodN (s : Nm) : Bool := s.all okB && (decide (1 ≤ s.length) && decide (s.length ≤ 8))
structure Cm where
  kind : Int
  name : Nm
  other : Nm
  off : Int
  count : Int
  dn : Nat
  df : Nat → Nat
/-- what is told: code, size, bytes, names -/
structure Td where
  code : Int
  size : Nat
  dat : By
  names : List Nm
def Td.no (c : Int) : Td := ⟨c, 0, By.none, []⟩
def readB (b : By) (off count : Nat) : By := ⟨if b.n ≤ off then 0 else min count (b.n - off), fun j => b.f (off + j)⟩
def writeB (b : By) (off n : Nat) (d : Nat → Nat) : By := ⟨max b.n (off + n), fun i => if off ≤ i ∧ i < off + n then d (i - off) else if i < b.n then b.f i else 0⟩
def sizeB (b : By) (m : Nat) : By := ⟨m, fun i => if i < b.n then b.f i else 0⟩
def fetchT (b : By) (off count : Int) : Td := if off < 0 ∨ count < 0 then Td.no 2 else ⟨0, b.n, readB b off.toNat count.toNat, []⟩
def roomT {α : Type} (l : List (Nm × α)) (x : Nm) (most : Nat) : Int := if goodN x = false then 4 else if (get l x).isSome = true then 7 else if l.length = most then 8 else 0
/-- a command at an object -/
def thingT (s : PS) (x : By) (c : Cm) : Td × PS :=
  if c.kind = 3 then (fetchT x c.off c.count, s)
  else if c.kind = 5 then (Td.no 0, ⟨del s.ths c.name, s.shs⟩)
  else if c.kind = 2 then
    (if c.dn = 0 ∨ 400 < c.dn then (Td.no 1, s)
     else if c.off < 0 ∨ 1024 - (c.dn : Int) < c.off then (Td.no 2, s)
     else (⟨0, (writeB x c.off.toNat c.dn c.df).n, By.none, []⟩, ⟨put s.ths c.name (writeB x c.off.toNat c.dn c.df), s.shs⟩))
  else if c.count < 0 ∨ 1024 < c.count then (Td.no 2, s)
  else (⟨0, c.count.toNat, By.none, []⟩, ⟨put s.ths c.name (sizeB x c.count.toNat), s.shs⟩)
/-- a command at the snapshots -/
def snapT (s : PS) (c : Cm) : Td × PS :=
  if c.kind = 7 then (if roomT s.shs c.other 3 = 0 then (Td.no 0, ⟨s.ths, put s.shs c.other s.ths⟩) else (Td.no (roomT s.shs c.other 3), s))
  else match get s.shs c.other with
    | none => (Td.no 6, s)
    | some l =>
      if c.kind = 9 then (Td.no 0, ⟨l, s.shs⟩)
      else if c.kind = 10 then (Td.no 0, ⟨s.ths, del s.shs c.other⟩)
      else match get l c.name with
        | none => (Td.no 6, s)
        | some b => (fetchT b c.off c.count, s)
def doT (s : PS) (c : Cm) : Td × PS :=
  if c.kind = 1 then (if roomT s.ths c.name 4 = 0 then (Td.no 0, ⟨put s.ths c.name By.none, s.shs⟩) else (Td.no (roomT s.ths c.name 4), s))
  else if c.kind = 6 then (⟨0, 0, By.none, s.ths.map (·.1)⟩, s)
  else if c.kind = 11 then (⟨0, 0, By.none, s.shs.map (·.1)⟩, s)
  else if c.kind = 7 ∨ c.kind = 8 ∨ c.kind = 9 ∨ c.kind = 10 then snapT s c
  else if c.kind = 2 ∨ c.kind = 3 ∨ c.kind = 4 ∨ c.kind = 5 then
    (match get s.ths c.name with
     | none => (Td.no 6, s)
     | some x => thingT s x c)
  else if c.kind = 12 then (Td.no 0, s)
  else (Td.no 3, s)
/-- what holds of things; of every state -/
structure OkT (l : Ths) : Prop where
  asc : Asc l
  len : l.length ≤ 4
  sz : ∀ p, p ∈ l → p.2.n ≤ 1024
structure OkP (s : PS) : Prop where
  th : OkT s.ths
  asc : Asc s.shs
  len : s.shs.length ≤ 3
  sh : ∀ p, p ∈ s.shs → OkT p.2
theorem OkP.start : OkP PS.start := ⟨⟨List.Pairwise.nil, by simp [PS.start], fun p h => by cases h⟩, List.Pairwise.nil, by simp [PS.start], fun p h => by cases h⟩
theorem OkT.put_old {l : Ths} (h : OkT l) {x : Nm} {b : By} (hx : (get l x).isSome = true) (hb : b.n ≤ 1024) : OkT (put l x b) :=
  ⟨put_asc h.asc _ _, by rw [put_length_old h.asc _ hx]; exact h.len, fun p hp => by
    rcases put_mem hp with rfl | hp
    · exact hb
    · exact h.sz p hp⟩
theorem OkT.del {l : Ths} (h : OkT l) (x : Nm) : OkT (del l x) :=
  ⟨del_asc h.asc _, Nat.le_trans (List.length_filter_le _ _) h.len, fun p hp => h.sz p (List.mem_filter.1 hp).1⟩
theorem room_zero {α : Type} {l : List (Nm × α)} {x : Nm} {most : Nat} (h : roomT l x most = 0) : goodN x = true ∧ get l x = none ∧ l.length ≠ most := by
  unfold roomT at h
  split at h
  · cases h
  split at h
  · cases h
  split at h
  · cases h
  rename_i h1 h2 h3
  refine ⟨by simpa using h1, ?_, h3⟩
  cases hg : get l x with
  | none => rfl
  | some v => rw [hg] at h2; exact absurd rfl h2
theorem doT_ok {s : PS} (h : OkP s) (c : Cm) : OkP (doT s c).2 := by
  unfold doT
  split
  · split
    · rename_i hr
      obtain ⟨_, h1, h2⟩ := room_zero hr
      refine ⟨⟨put_asc h.th.asc _ _, ?_, fun p hp => ?_⟩, h.asc, h.len, h.sh⟩
      · show (put _ _ _).length ≤ 4
        rw [put_length_new _ h1]
        have := h.th.len
        omega
      · rcases put_mem hp with rfl | hp
        · show 0 ≤ 1024; omega
        · exact h.th.sz p hp
    · exact h
  split
  · exact h
  split
  · exact h
  split
  · unfold snapT
    split
    · split
      · rename_i hr
        obtain ⟨_, h1, h2⟩ := room_zero hr
        refine ⟨h.th, put_asc h.asc _ _, ?_, fun p hp => ?_⟩
        · show (put _ _ _).length ≤ 3
          rw [put_length_new _ h1]
          have := h.len
          omega
        · rcases put_mem hp with rfl | hp
          · exact h.th
          · exact h.sh p hp
      · exact h
    · split
      · exact h
      · rename_i l hl
        split
        · exact ⟨h.sh _ (get_some hl), h.asc, h.len, h.sh⟩
        split
        · exact ⟨h.th, del_asc h.asc _, Nat.le_trans (List.length_filter_le _ _) h.len, fun p hp => h.sh p (List.mem_filter.1 hp).1⟩
        split
        · exact h
        · exact h
  split
  · split
    · exact h
    · rename_i x hx
      have hs : (get s.ths c.name).isSome = true := by rw [hx]; rfl
      have hxn : x.n ≤ 1024 := h.th.sz _ (get_some hx)
      unfold thingT
      split
      · exact h
      split
      · exact ⟨h.th.del _, h.asc, h.len, h.sh⟩
      split
      · split
        · exact h
        split
        · exact h
        · refine ⟨h.th.put_old hs ?_, h.asc, h.len, h.sh⟩
          show max x.n (c.off.toNat + c.dn) ≤ 1024
          omega
      split
      · exact h
      · refine ⟨h.th.put_old hs ?_, h.asc, h.len, h.sh⟩
        show c.count.toNat ≤ 1024
        omega
  split
  · exact h
  · exact h
end Go.Proofs.Ytmpaheaedaeakaa.pool
