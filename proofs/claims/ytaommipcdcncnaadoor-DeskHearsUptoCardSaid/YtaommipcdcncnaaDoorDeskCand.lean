/-
  Plain laws of a command's line read back: who shows the line, and what the readers of its words give.
-/
import Derived.Test.YtaommipcdcncnaaDoorDeskShow
import Derived.Test.YtaommipcdcncnaaDoorDeskCut
import Derived.Test.YtaommipcdcncnaaDoorDeskNum
import Derived.Test.YtaommipcdcncnaaDoorDeskHexP
namespace Go.Proofs.YtaommipcdcncnaaDoor.desk
open Go.Proofs.YtaommipcdcncnaaDoor.kit
set_option linter.unusedVariables false
def sgn (s : UInt8) : Prop := s = 110 ∨ s = 111 ∨ s = 102 ∨ s = 99 ∨ s = 100 ∨ s = 107 ∨ s = 120
def zeroF (s : UInt8) (C : Cu) : Prop :=
  if s = 110 then C.nm = [] else if s = 111 then C.ot = [] else if s = 102 then C.off = 0 else if s = 99 then C.cnt = 0 else if s = 100 then C.drv = 0 else if s = 107 then C.kp = 0 else C.dn = 0
theorem zeroC_iff (C : Cu) : zeroC C = true ↔ ∀ s, sgn s → zeroF s C := by
  unfold zeroC
  rw [decide_eq_true_eq]
  constructor
  · rintro ⟨h1, h2, h3, h4, h5, h6, h7⟩ s (rfl | rfl | rfl | rfl | rfl | rfl | rfl)
    · exact h1
    · exact h2
    · exact h3
    · exact h4
    · exact h5
    · exact h6
    · exact h7
  · intro h
    exact ⟨h 110 (by simp [sgn]), h 111 (by simp [sgn]), h 102 (by simp [sgn]), h 99 (by simp [sgn]), h 100 (by simp [sgn]), h 107 (by simp [sgn]), h 120 (by simp [sgn])⟩
theorem part_clr {f : Nat → Nat} {s t : UInt8} {C : Cu} (hs : sgn s) (ht : sgn t) (h : s ≠ t) : part f s (clr t C) = part f s C := by
  rcases hs with rfl | rfl | rfl | rfl | rfl | rfl | rfl <;> rcases ht with rfl | rfl | rfl | rfl | rfl | rfl | rfl <;> first | exact absurd rfl h | rfl
theorem bad_clr {s t : UInt8} {C : Cu} (hs : sgn s) (ht : sgn t) (h : s ≠ t) : badS s (clr t C) = badS s C := by
  rcases hs with rfl | rfl | rfl | rfl | rfl | rfl | rfl <;> rcases ht with rfl | rfl | rfl | rfl | rfl | rfl | rfl <;> first | exact absurd rfl h | rfl
theorem zero_clr {s t : UInt8} {C : Cu} (hs : sgn s) (ht : sgn t) : zeroF s (clr t C) ↔ s = t ∨ zeroF s C := by
  rcases hs with rfl | rfl | rfl | rfl | rfl | rfl | rfl <;> rcases ht with rfl | rfl | rfl | rfl | rfl | rfl | rfl <;> simp [zeroF, clr]
def fold (sg : Tx) (C : Cu) : Cu := sg.foldl (fun c s => clr s c) C
theorem goS_all (f : Nat → Nat) : ∀ (sg : Tx) (C : Cu), sg.Nodup → (∀ s ∈ sg, sgn s) → (∀ s ∈ sg, badS s C = false) → goS f sg C = some (sg.map (fun s => part f s C), fold sg C)
  | [], C, _, _, _ => rfl
  | s :: r, C, hd, hs, hb => by
    obtain ⟨hn, hd⟩ := List.nodup_cons.1 hd
    have hss := hs s (List.mem_cons_self ..)
    have hne : ∀ t ∈ r, t ≠ s := fun t ht e => hn (e ▸ ht)
    rw [goS_more (hb s (List.mem_cons_self ..)), goS_all f r (clr s C) hd (fun t ht => hs t (List.mem_cons_of_mem _ ht)) (fun t ht => by
      rw [bad_clr (hs t (List.mem_cons_of_mem _ ht)) hss (hne t ht)]
      exact hb t (List.mem_cons_of_mem _ ht))]
    simp only [Option.map_some, List.map_cons]
    congr 2
    congr 1
    exact List.map_congr_left fun t ht => part_clr (hs t (List.mem_cons_of_mem _ ht)) hss (hne t ht)
theorem goS_not (f : Nat → Nat) : ∀ (sg : Tx) (C : Cu), sg.Nodup → (∀ s ∈ sg, sgn s) → (∃ s ∈ sg, badS s C = true) → goS f sg C = none
  | [], C, _, _, h => by
    obtain ⟨s, h, _⟩ := h
    cases h
  | s :: r, C, hd, hs, h => by
    obtain ⟨hn, hd⟩ := List.nodup_cons.1 hd
    have hss := hs s (List.mem_cons_self ..)
    cases hb : badS s C with
    | true => exact goS_bad hb
    | false =>
      obtain ⟨t, ht, hbt⟩ := h
      have htr : t ∈ r := by
        rcases List.mem_cons.1 ht with rfl | ht
        · rw [hb] at hbt; cases hbt
        · exact ht
      have hne : t ≠ s := fun e => hn (e ▸ htr)
      rw [goS_more hb, goS_not f r (clr s C) hd (fun t ht => hs t (List.mem_cons_of_mem _ ht)) ⟨t, htr, by rw [bad_clr (hs t ht) hss hne]; exact hbt⟩]
      rfl
theorem zero_fold : ∀ (sg : Tx) (C : Cu) (t : UInt8), (∀ s ∈ sg, sgn s) → sgn t → (zeroF t (fold sg C) ↔ t ∈ sg ∨ zeroF t C)
  | [], C, t, _, _ => by simp [fold]
  | s :: r, C, t, hs, ht => by
    show zeroF t (fold r (clr s C)) ↔ _
    rw [zero_fold r (clr s C) t (fun t ht => hs t (List.mem_cons_of_mem _ ht)) ht, zero_clr ht (hs s (List.mem_cons_self ..)), List.mem_cons]
    constructor
    · rintro (h | h | h)
      · exact .inl (.inr h)
      · exact .inl (.inl h)
      · exact .inr h
    · rintro ((h | h) | h)
      · exact .inr (.inl h)
      · exact .inl h
      · exact .inr (.inr h)
theorem signs_dup : ∀ i, i < 19 → (wordK i).2.Nodup := by decide
theorem signs_sgn {i : Nat} (hi : i < 19) : ∀ s ∈ (wordK i).2, sgn s := (signs_ok i hi).2
theorem show_iff {f : Nat → Nat} {i : Nat} (hi : i < 19) {C : Cu} {x : Tx} : showT f ((i : Int) + 1) C = (x, 0) ↔ (∀ s ∈ (wordK i).2, badS s C = false) ∧ (∀ t, sgn t → t ∈ (wordK i).2 ∨ zeroF t C) ∧ x = (wordK i).1 ++ tailT ((wordK i).2.map fun s => part f s C) := by
  by_cases hb : ∃ s ∈ (wordK i).2, badS s C = true
  · rw [show_none hi (goS_not f _ C (signs_dup i hi) (signs_sgn hi) hb)]
    constructor
    · intro h
      have : (4 : Int) = 0 := congrArg Prod.snd h
      exact absurd this (by decide)
    · rintro ⟨h, _⟩
      obtain ⟨s, hs, hb⟩ := hb
      rw [h s hs] at hb
      cases hb
  · have hb2 : ∀ s ∈ (wordK i).2, badS s C = false := fun s hs => by
      cases h : badS s C with
      | false => rfl
      | true => exact absurd ⟨s, hs, h⟩ hb
    rw [show_some hi (goS_all f _ C (signs_dup i hi) (signs_sgn hi) hb2)]
    have hz : zeroC (fold (wordK i).2 C) = true ↔ ∀ t, sgn t → t ∈ (wordK i).2 ∨ zeroF t C := by
      rw [zeroC_iff]
      exact ⟨fun h t ht => (zero_fold _ C t (signs_sgn hi) ht).1 (h t ht), fun h t ht => (zero_fold _ C t (signs_sgn hi) ht).2 (h t ht)⟩
    dsimp only
    by_cases hzt : zeroC (fold (wordK i).2 C) = true
    · rw [if_pos hzt]
      constructor
      · intro h
        exact ⟨hb2, hz.1 hzt, (congrArg Prod.fst h).symm⟩
      · rintro ⟨_, _, h⟩
        rw [h]
    · rw [if_neg hzt]
      constructor
      · intro h
        have : (4 : Int) = 0 := congrArg Prod.snd h
        exact absurd this (by decide)
      · rintro ⟨_, h, _⟩
        exact absurd (hz.2 h) hzt
theorem show_kinds {f : Nat → Nat} {k : Int} {C : Cu} {x : Tx} (h : showT f k C = (x, 0)) : ∃ i : Nat, i < 19 ∧ k = (i : Int) + 1 := by
  by_cases hk : k < 1 ∨ 19 < k
  · rw [show_kind hk] at h
    have : (3 : Int) = 0 := congrArg Prod.snd h
    exact absurd this (by decide)
  · exact ⟨(k - 1).toNat, by omega, by omega⟩
/-- words without blanks -/
theorem good_blank {s : Nm} (h : goodN s = true) : ¬ (32 : UInt8) ∈ s := fun hm => by
  unfold goodN at h
  rw [Bool.and_eq_true] at h
  have := List.all_eq_true.1 h.1 32 hm
  exact absurd this (by decide)
theorem itoa_blank (m : Int) : ¬ (32 : UInt8) ∈ Lib.itoa m := fun hm => by
  have hd : ¬ (32 : UInt8) ∈ Lib.decDigits m.natAbs := fun h => by
    have := List.all_eq_true.1 (dec_dig m.natAbs m.natAbs (Nat.le_refl _)) 32 h
    exact absurd this (by decide)
  rcases itoa_parts m with ⟨_, e⟩ | ⟨_, e⟩
  · rw [e] at hm
    rcases List.mem_cons.1 hm with h | h
    · exact absurd h (by decide)
    · exact hd h
  · rw [e] at hm
    exact hd hm
theorem hexT_blank {f : Nat → Nat} (hf : ∀ i, f i < 256) (n : Nat) : ¬ (32 : UInt8) ∈ hexT f n := fun hm => by
  unfold hexT at hm
  split at hm
  · exact absurd hm (by decide)
  · have := List.all_eq_true.1 (hexN_all f hf n) 32 hm
    exact absurd this (by decide)
theorem part_blank {f : Nat → Nat} (hf : ∀ i, f i < 256) {s : UInt8} {C : Cu} (hs : sgn s) (hb : badS s C = false) : ¬ (32 : UInt8) ∈ part f s C := by
  rcases hs with rfl | rfl | rfl | rfl | rfl | rfl | rfl
  · refine good_blank ?_
    cases h : goodN C.nm with
    | true => exact h
    | false =>
      have : badS 110 C = true := by unfold badS; rw [h]; rfl
      rw [this] at hb
      cases hb
  · refine good_blank ?_
    cases h : goodN C.ot with
    | true => exact h
    | false =>
      have : badS 111 C = true := by unfold badS; rw [h]; rfl
      rw [this] at hb
      cases hb
  · exact itoa_blank _
  · exact itoa_blank _
  · exact itoa_blank _
  · exact itoa_blank _
  · exact hexT_blank hf _
theorem word_blank : ∀ i, i < 19 → ¬ (32 : UInt8) ∈ (wordK i).1 := by decide
theorem word_inj : ∀ i, i < 19 → ∀ j, j < 19 → (wordK i).1 = (wordK j).1 → i = j := by decide
theorem cut_show {f : Nat → Nat} (hf : ∀ i, f i < 256) {i : Nat} (hi : i < 19) {C : Cu} {line : Tx} (h : showT f ((i : Int) + 1) C = (line, 0)) : cutT line = (wordK i).1 :: (wordK i).2.map fun s => part f s C := by
  obtain ⟨hb, _, hx⟩ := (show_iff hi).1 h
  rw [hx]
  refine cut_word _ _ (word_blank i hi) fun p hp => ?_
  obtain ⟨s, hs, rfl⟩ := List.mem_map.1 hp
  exact part_blank hf (signs_sgn hi s hs) (hb s hs)
theorem join_cut (s : Tx) {h : Tx} {t : List Tx} (e : cutT s = h :: t) : s = h ++ tailT t := by
  obtain ⟨h', t', e', hs, _⟩ := cut_join s
  rw [e] at e'
  injection e' with e1 e2
  rw [e1, e2]
  exact hs
/-- what a command's numbers are within -/
structure BdC (c : Cu) : Prop where
  o0 : -9223372036854775808 ≤ c.off
  o1 : c.off ≤ 9223372036854775807
  c0 : -9223372036854775808 ≤ c.cnt
  c1 : c.cnt ≤ 9223372036854775807
  d0 : -9223372036854775808 ≤ c.drv
  d1 : c.drv ≤ 9223372036854775807
  k0 : -9223372036854775808 ≤ c.kp
  k1 : c.kp ≤ 9223372036854775807
/-- a sign's field as the readers give it out of a word -/
def Rds (f : Nat → Nat) (s : UInt8) (C : Cu) (p : Tx) (b : Bool) : Prop :=
  if s = 110 then C.nm = p ∧ b = goodN p else if s = 111 then C.ot = p ∧ b = goodN p else if s = 102 then NumP p C.off b else if s = 99 then NumP p C.cnt b else if s = 100 then NumP p C.drv b else if s = 107 then NumP p C.kp b else HexP p f C.dn b
theorem Rds.good {f : Nat → Nat} {s : UInt8} {C : Cu} {p : Tx} (hs : sgn s) (h : Rds f s C p true) : part f s C = p ∧ badS s C = false := by
  rcases hs with rfl | rfl | rfl | rfl | rfl | rfl | rfl
  · obtain ⟨h1, h2⟩ : C.nm = p ∧ true = goodN p := h
    refine ⟨h1, ?_⟩
    unfold badS
    rw [h1, ← h2]
    rfl
  · obtain ⟨h1, h2⟩ : C.ot = p ∧ true = goodN p := h
    refine ⟨h1, ?_⟩
    unfold badS
    rw [h1, ← h2]
    rfl
  · exact ⟨(show NumP p C.off true from h).2.1 rfl, rfl⟩
  · exact ⟨(show NumP p C.cnt true from h).2.1 rfl, rfl⟩
  · exact ⟨(show NumP p C.drv true from h).2.1 rfl, rfl⟩
  · exact ⟨(show NumP p C.kp true from h).2.1 rfl, rfl⟩
  · exact ⟨(show HexP p f C.dn true from h).2.1 rfl, rfl⟩
theorem Rds.fine {f f' : Nat → Nat} {s : UInt8} {C C' : Cu} {p : Tx} {b : Bool} (hs : sgn s) (h : Rds f s C p b) (hB : BdC C') (hf' : ∀ i, f' i < 256) (hp : part f' s C' = p) (hb : badS s C' = false) : b = true := by
  cases b with
  | true => rfl
  | false =>
    exfalso
    rcases hs with rfl | rfl | rfl | rfl | rfl | rfl | rfl
    · obtain ⟨h1, h2⟩ : C.nm = p ∧ false = goodN p := h
      have e : C'.nm = p := hp
      have : badS 110 C' = true := by
        unfold badS
        rw [e, ← h2]
        rfl
      rw [this] at hb
      cases hb
    · obtain ⟨h1, h2⟩ : C.ot = p ∧ false = goodN p := h
      have e : C'.ot = p := hp
      have : badS 111 C' = true := by
        unfold badS
        rw [e, ← h2]
        rfl
      rw [this] at hb
      cases hb
    · exact (show NumP p C.off false from h).2.2 rfl _ hB.o0 hB.o1 hp
    · exact (show NumP p C.cnt false from h).2.2 rfl _ hB.c0 hB.c1 hp
    · exact (show NumP p C.drv false from h).2.2 rfl _ hB.d0 hB.d1 hp
    · exact (show NumP p C.kp false from h).2.2 rfl _ hB.k0 hB.k1 hp
    · exact (show HexP p f C.dn false from h).2.2 rfl _ _ hf' hp
/-- a command made of a line's words, for kind i -/
structure Cand (f : Nat → Nat) (i : Nat) (P : List Tx) (C : Cu) (bs : Nat → Bool) : Prop where
  rd : ∀ j (h : j < (wordK i).2.length), Rds f ((wordK i).2[j]) C (P.getD (j + 1) []) (bs j)
  ze : ∀ t, sgn t → t ∈ (wordK i).2 ∨ zeroF t C
theorem Cand.good {f : Nat → Nat} {i : Nat} {line : Tx} {C : Cu} {bs : Nat → Bool} (hi : i < 19) (h : Cand f i (cutT line) C bs) (hl : (cutT line).length = (wordK i).2.length + 1) (hw : (cutT line).getD 0 [] = (wordK i).1) (hb : ∀ j, j < (wordK i).2.length → bs j = true) : showT f ((i : Int) + 1) C = (line, 0) := by
  have hall : ∀ j (hj : j < (wordK i).2.length), part f ((wordK i).2[j]) C = (cutT line).getD (j + 1) [] ∧ badS ((wordK i).2[j]) C = false := fun j hj => by
    have h1 := h.rd j hj
    rw [hb j hj] at h1
    exact h1.good (signs_sgn hi _ (List.getElem_mem hj))
  rw [show_iff hi]
  refine ⟨fun s hs => ?_, h.ze, ?_⟩
  · obtain ⟨j, hj, rfl⟩ := List.getElem_of_mem hs
    exact (hall j hj).2
  · refine join_cut line ?_
    apply List.ext_getElem
    · rw [hl]; simp
    · intro j h1 h2
      cases j with
      | zero =>
        rw [← hw]
        simp [List.getD, h1]
      | succ j =>
        have hj : j < (wordK i).2.length := by simpa using h2
        simp only [List.getElem_cons_succ, List.getElem_map]
        rw [(hall j hj).1]
        simp [List.getD, h1]
theorem Cand.fine {f f' : Nat → Nat} {i : Nat} {line : Tx} {C C' : Cu} {bs : Nat → Bool} (hi : i < 19) (h : Cand f i (cutT line) C bs) (hB : BdC C') (hf' : ∀ i, f' i < 256) (hs : showT f' ((i : Int) + 1) C' = (line, 0)) : ∀ j, j < (wordK i).2.length → bs j = true := fun j hj => by
  have hc := cut_show hf' hi hs
  obtain ⟨hb, _, _⟩ := (show_iff hi).1 hs
  have hm := List.getElem_mem hj
  refine (h.rd j hj).fine (signs_sgn hi _ hm) hB hf' ?_ (hb _ hm)
  rw [hc]
  simp [List.getD, hj]
theorem show_len {f' : Nat → Nat} {i : Nat} {line : Tx} {C' : Cu} (hi : i < 19) (hf' : ∀ i, f' i < 256) (hs : showT f' ((i : Int) + 1) C' = (line, 0)) : (cutT line).length = (wordK i).2.length + 1 ∧ (cutT line).getD 0 [] = (wordK i).1 := by
  rw [cut_show hf' hi hs]
  simp
/-- the line is that of no command of kind i -/
def NoneAt (line : Tx) (i : Nat) : Prop := ∀ (f : Nat → Nat) (C : Cu), BdC C → (∀ i, f i < 256) → showT f ((i : Int) + 1) C ≠ (line, 0)
theorem Cand.none {f : Nat → Nat} {i : Nat} {line : Tx} {C : Cu} {bs : Nat → Bool} (hi : i < 19) (h : Cand f i (cutT line) C bs) (hs : showT f ((i : Int) + 1) C ≠ (line, 0)) : NoneAt line i := fun f' C' hB hf' h' =>
  hs (h.good hi (show_len hi hf' h').1 (show_len hi hf' h').2 (h.fine hi hB hf' h'))
theorem none_word {i : Nat} {line : Tx} (hi : i < 19) (h : (cutT line).getD 0 [] ≠ (wordK i).1) : NoneAt line i := fun f' C' hB hf' h' => h (show_len hi hf' h').2
theorem none_len {i : Nat} {line : Tx} (hi : i < 19) (h : (cutT line).length ≠ (wordK i).2.length + 1) : NoneAt line i := fun f' C' hB hf' h' => h (show_len hi hf' h').1
/-- the command of a line, or that there is none -/
def RdP (line : Tx) (k : Int) (C : Cu) (f : Nat → Nat) (code : Int) : Prop := ((∀ i, f i < 256) ∧ BdC C) ∧ ((code = 0 ∧ showT f k C = (line, 0)) ∨ (code = 4 ∧ k = 0 ∧ (∀ t, sgn t → zeroF t C) ∧ ∀ i, i < 19 → NoneAt line i))
theorem zero_eq {t : UInt8} {f f' : Nat → Nat} {C C' : Cu} (ht : sgn t) (hB : BdC C) (hB' : BdC C') (hf : ∀ i, f i < 256) (hf' : ∀ i, f' i < 256) (h : part f t C = part f' t C' ∨ (zeroF t C ∧ zeroF t C')) :
    (t = 110 → C.nm = C'.nm) ∧ (t = 111 → C.ot = C'.ot) ∧ (t = 102 → C.off = C'.off) ∧ (t = 99 → C.cnt = C'.cnt) ∧ (t = 100 → C.drv = C'.drv) ∧ (t = 107 → C.kp = C'.kp) ∧ (t = 120 → C.dn = C'.dn ∧ ∀ i, i < C.dn → f i = f' i) := by
  refine ⟨?_, ?_, ?_, ?_, ?_, ?_, ?_⟩ <;> rintro rfl
  · rcases h with h | ⟨h1, h2⟩
    · exact h
    · exact (show C.nm = [] from h1).trans (show C'.nm = [] from h2).symm
  · rcases h with h | ⟨h1, h2⟩
    · exact h
    · exact (show C.ot = [] from h1).trans (show C'.ot = [] from h2).symm
  · rcases h with h | ⟨h1, h2⟩
    · exact itoa_inj hB.o0 hB.o1 hB'.o0 hB'.o1 h
    · exact (show C.off = 0 from h1).trans (show C'.off = 0 from h2).symm
  · rcases h with h | ⟨h1, h2⟩
    · exact itoa_inj hB.c0 hB.c1 hB'.c0 hB'.c1 h
    · exact (show C.cnt = 0 from h1).trans (show C'.cnt = 0 from h2).symm
  · rcases h with h | ⟨h1, h2⟩
    · exact itoa_inj hB.d0 hB.d1 hB'.d0 hB'.d1 h
    · exact (show C.drv = 0 from h1).trans (show C'.drv = 0 from h2).symm
  · rcases h with h | ⟨h1, h2⟩
    · exact itoa_inj hB.k0 hB.k1 hB'.k0 hB'.k1 h
    · exact (show C.kp = 0 from h1).trans (show C'.kp = 0 from h2).symm
  · rcases h with h | ⟨h1, h2⟩
    · exact hexT_inj hf hf' h
    · have e1 : C.dn = 0 := h1
      have e2 : C'.dn = 0 := h2
      exact ⟨e1.trans e2.symm, fun i hi => by omega⟩
structure SameC (f f' : Nat → Nat) (C C' : Cu) : Prop where
  nm : C.nm = C'.nm
  ot : C.ot = C'.ot
  off : C.off = C'.off
  cnt : C.cnt = C'.cnt
  drv : C.drv = C'.drv
  kp : C.kp = C'.kp
  dn : C.dn = C'.dn
  da : ∀ i, i < C.dn → f i = f' i
theorem same_of {f f' : Nat → Nat} {C C' : Cu} (hB : BdC C) (hB' : BdC C') (hf : ∀ i, f i < 256) (hf' : ∀ i, f' i < 256) (h : ∀ t, sgn t → part f t C = part f' t C' ∨ (zeroF t C ∧ zeroF t C')) : SameC f f' C C' := by
  have e := fun t ht => zero_eq ht hB hB' hf hf' (h t ht)
  exact ⟨(e 110 (by simp [sgn])).1 rfl, (e 111 (by simp [sgn])).2.1 rfl, (e 102 (by simp [sgn])).2.2.1 rfl, (e 99 (by simp [sgn])).2.2.2.1 rfl, (e 100 (by simp [sgn])).2.2.2.2.1 rfl, (e 107 (by simp [sgn])).2.2.2.2.2.1 rfl, ((e 120 (by simp [sgn])).2.2.2.2.2.2 rfl).1, ((e 120 (by simp [sgn])).2.2.2.2.2.2 rfl).2⟩
theorem RdP.one {line : Tx} {k k' : Int} {C C' : Cu} {f f' : Nat → Nat} {code code' : Int} (h : RdP line k C f code) (h' : RdP line k' C' f' code') : code = code' ∧ k = k' ∧ SameC f f' C C' := by
  obtain ⟨⟨hf, hB⟩, h⟩ := h
  obtain ⟨⟨hf', hB'⟩, h'⟩ := h'
  rcases h with ⟨hc, hs⟩ | ⟨hc, hk, hz, hn⟩ <;> rcases h' with ⟨hc', hs'⟩ | ⟨hc', hk', hz', hn'⟩
  · obtain ⟨i, hi, rfl⟩ := show_kinds hs
    obtain ⟨i', hi', rfl⟩ := show_kinds hs'
    have e1 := (show_len hi hf hs).2
    have e2 := (show_len hi' hf' hs').2
    obtain rfl := word_inj i hi i' hi' (e1.symm.trans e2)
    refine ⟨by rw [hc, hc'], rfl, same_of hB hB' hf hf' fun t ht => ?_⟩
    have c1 := cut_show hf hi hs
    rw [cut_show hf' hi hs'] at c1
    injection c1 with _ c1
    by_cases hm : t ∈ (wordK i).2
    · obtain ⟨j, hj, rfl⟩ := List.getElem_of_mem hm
      have h2 := congrArg (fun l => l[j]?) c1
      simp only [List.getElem?_map, List.getElem?_eq_getElem hj, Option.map_some] at h2
      exact .inl (Option.some.inj h2).symm
    · refine .inr ⟨?_, ?_⟩
      · rcases ((show_iff hi).1 hs).2.1 t ht with h | h
        · exact absurd h hm
        · exact h
      · rcases ((show_iff hi).1 hs').2.1 t ht with h | h
        · exact absurd h hm
        · exact h
  · obtain ⟨i, hi, rfl⟩ := show_kinds hs
    exact absurd hs (hn' i hi f C hB hf)
  · obtain ⟨i, hi, rfl⟩ := show_kinds hs'
    exact absurd hs' (hn i hi f' C' hB' hf')
  · exact ⟨by rw [hc, hc'], by rw [hk, hk'], same_of hB hB' hf hf' fun t ht => .inr ⟨hz t ht, hz' t ht⟩⟩
end Go.Proofs.YtaommipcdcncnaaDoor.desk
