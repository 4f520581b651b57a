/-
  Plain laws of an answer's line read back.
-/
import Derived.Test.YtaommipcdcncnaaDoorDeskCand
import Derived.Test.YtaommipcdcncnaaDoorDeskTell
namespace Go.Proofs.YtaommipcdcncnaaDoor.desk
open Go.Proofs.YtaommipcdcncnaaDoor.kit
set_option linter.unusedVariables false
abbrev doneT : Tx := [100, 111, 110, 101]
abbrev noT : Tx := [110, 111]
abbrev okT : Tx := [111, 107]
/-- what stands behind the numbers and the data -/
def restT (dn : Bool) (l : List Nm) : List Tx := (if dn = true then [doneT] else []) ++ l
theorem words_zero {code size : Int} {dn : Bool} {f : Nat → Nat} {n : Nat} {l : List Nm} (h : code = 0) : wordsT code size dn f n l = okT :: Lib.itoa size :: hexT f n :: restT dn l := by
  unfold wordsT headT restT
  rw [if_pos h]
  simp
theorem words_code {code size : Int} {dn : Bool} {f : Nat → Nat} {n : Nat} {l : List Nm} (h : ¬ code = 0) : wordsT code size dn f n l = noT :: Lib.itoa code :: Lib.itoa size :: hexT f n :: restT dn l := by
  unfold wordsT headT restT
  rw [if_neg h]
  simp
theorem bad_not {code size : Int} {l : List Nm} (h : badT code size l = false) : 0 ≤ code ∧ 0 ≤ size ∧ l.any oddN = false := by
  unfold badT at h
  rw [Bool.or_eq_false_iff, Bool.or_eq_false_iff] at h
  obtain ⟨h1, h2, h3⟩ := h
  simp at h1 h2
  exact ⟨h1, h2, h3⟩
theorem bad_of {code size : Int} {l : List Nm} (h1 : 0 ≤ code) (h2 : 0 ≤ size) (h3 : l.any oddN = false) : badT code size l = false := by
  unfold badT
  rw [h3]
  simp
  omega
theorem odd_good {s : Nm} (h : oddN s = false) : goodN s = true ∧ s ≠ doneT := by
  unfold oddN at h
  rw [Bool.or_eq_false_iff] at h
  obtain ⟨h1, h2⟩ := h
  exact ⟨by simpa using h1, by simpa using h2⟩
theorem odd_of {s : Nm} (h : goodN s = true) (h2 : s ≠ doneT) : oddN s = false := by
  unfold oddN
  rw [h]
  simpa using h2
theorem odd_done : oddN doneT = true := by decide
theorem rest_blank {dn : Bool} {l : List Nm} (h : l.any oddN = false) : ∀ x ∈ restT dn l, ¬ (32 : UInt8) ∈ x := fun x hx => by
  unfold restT at hx
  rcases List.mem_append.1 hx with hx | hx
  · cases dn
    · simp at hx
    · have : x = doneT := by simpa using hx
      subst this
      decide
  · exact good_blank (odd_good (List.any_eq_false.1 h x hx |> fun h => by simpa using h)).1
theorem rest_inj {dn dn' : Bool} {l l' : List Nm} (h : l.any oddN = false) (h' : l'.any oddN = false) (e : restT dn l = restT dn' l') : dn = dn' ∧ l = l' := by
  have nodone : ∀ {l : List Nm}, l.any oddN = false → ∀ r, l ≠ doneT :: r := fun h r e => by
    rw [e, List.any_cons, odd_done] at h
    cases h
  unfold restT at e
  cases dn <;> cases dn'
  · exact ⟨rfl, by simpa using e⟩
  · exact absurd (by simpa using e) (nodone h l')
  · exact absurd (by simpa using e.symm) (nodone h' l)
  · exact ⟨rfl, by simpa using e⟩
theorem cut_line {code size : Int} {dn : Bool} {f : Nat → Nat} {n : Nat} {l : List Nm} (hf : ∀ i, f i < 256) (hl : l.any oddN = false) : cutT (lineT code size dn f n l) = wordsT code size dn f n l := by
  rw [← words_line]
  by_cases hc : code = 0
  · rw [words_zero hc, Lib.join_cons]
    refine cut_word _ _ (by decide) fun p hp => ?_
    rcases List.mem_cons.1 hp with rfl | hp
    · exact itoa_blank _
    rcases List.mem_cons.1 hp with rfl | hp
    · exact hexT_blank hf _
    · exact rest_blank hl p hp
  · rw [words_code hc, Lib.join_cons]
    refine cut_word _ _ (by decide) fun p hp => ?_
    rcases List.mem_cons.1 hp with rfl | hp
    · exact itoa_blank _
    rcases List.mem_cons.1 hp with rfl | hp
    · exact itoa_blank _
    rcases List.mem_cons.1 hp with rfl | hp
    · exact hexT_blank hf _
    · exact rest_blank hl p hp
/-- the line of no answer -/
def NoTold (line : Tx) : Prop := ∀ (code size : Int) (dn : Bool) (f : Nat → Nat) (n : Nat) (l : List Nm), badT code size l = false → code ≤ 9223372036854775807 → size ≤ 9223372036854775807 → (∀ i, f i < 256) → lineT code size dn f n l ≠ line
/-- the answer of a line, or that there is none -/
def HrP (line : Tx) (code size : Int) (dn : Bool) (f : Nat → Nat) (n : Nat) (l : List Nm) (cd : Int) : Prop :=
  (∀ i, f i < 256) ∧ ((cd = 0 ∧ badT code size l = false ∧ code ≤ 9223372036854775807 ∧ size ≤ 9223372036854775807 ∧ lineT code size dn f n l = line) ∨ (cd = 4 ∧ code = 0 ∧ size = 0 ∧ dn = false ∧ n = 0 ∧ l = [] ∧ NoTold line))
theorem HrP.one {line : Tx} {code size code' size' : Int} {dn dn' : Bool} {f f' : Nat → Nat} {n n' : Nat} {l l' : List Nm} {cd cd' : Int} (h : HrP line code size dn f n l cd) (h' : HrP line code' size' dn' f' n' l' cd') :
    cd = cd' ∧ code = code' ∧ size = size' ∧ dn = dn' ∧ n = n' ∧ (∀ i, i < n → f i = f' i) ∧ l = l' := by
  obtain ⟨hf, h⟩ := h
  obtain ⟨hf', h'⟩ := h'
  rcases h with ⟨hc, hb, hc1, hs1, hl⟩ | ⟨hc, e1, e2, e3, e4, e5, hn⟩ <;> rcases h' with ⟨hc', hb', hc1', hs1', hl'⟩ | ⟨hc', e1', e2', e3', e4', e5', hn'⟩
  · obtain ⟨b1, b2, b3⟩ := bad_not hb
    obtain ⟨b1', b2', b3'⟩ := bad_not hb'
    have e := cut_line (code := code) (size := size) (dn := dn) (n := n) hf b3
    rw [hl, ← hl', cut_line hf' b3'] at e
    have fin : Lib.itoa size' = Lib.itoa size → hexT f' n' = hexT f n → restT dn' l' = restT dn l → code = code' → cd = cd' ∧ code = code' ∧ size = size' ∧ dn = dn' ∧ n = n' ∧ (∀ i, i < n → f i = f' i) ∧ l = l' := fun h1 h2 h3 h4 => by
      obtain ⟨r1, r2⟩ := rest_inj b3 b3' h3.symm
      obtain ⟨r3, r4⟩ := hexT_inj hf hf' h2.symm
      exact ⟨by rw [hc, hc'], h4, itoa_inj (by omega) (by omega) (by omega) (by omega) h1.symm, r1, r3, r4, r2⟩
    by_cases z : code = 0 <;> by_cases z' : code' = 0
    · rw [words_zero z, words_zero z'] at e
      injection e with _ e
      injection e with a1 e
      injection e with a2 a3
      exact fin a1 a2 a3 (z.trans z'.symm)
    · rw [words_zero z, words_code z'] at e
      injection e with e _
      exact absurd e (by decide)
    · rw [words_code z, words_zero z'] at e
      injection e with e _
      exact absurd e (by decide)
    · rw [words_code z, words_code z'] at e
      injection e with _ e
      injection e with a0 e
      injection e with a1 e
      injection e with a2 a3
      exact fin a1 a2 a3 (itoa_inj (by omega) (by omega) (by omega) (by omega) a0.symm)
  · exact absurd hl (hn' code size dn f n l hb hc1 hs1 hf)
  · exact absurd hl' (hn code' size' dn' f' n' l' hb' hc1' hs1' hf')
  · subst e1 e2 e3 e4 e5 e1' e2' e3' e4' e5'
    exact ⟨by rw [hc, hc'], rfl, rfl, rfl, rfl, fun i hi => absurd hi (Nat.not_lt_zero i), rfl⟩
/-- what the program makes of a line's words -/
def HCandQ (Q : List Tx) (size : Int) (dn : Bool) (f : Nat → Nat) (n : Nat) (l : List Nm) : Prop :=
  (3 ≤ Q.length ∧ (∃ b, NumP (Q.getD 1 []) size b) ∧ (∃ b, HexP (Q.getD 2 []) f n b) ∧ ((dn = true ∧ ∃ r, Q.drop 3 = doneT :: r ∧ l = r) ∨ (dn = false ∧ (∀ r, Q.drop 3 ≠ doneT :: r) ∧ l = Q.drop 3))) ∨ (Q.length < 3 ∧ size = 0 ∧ dn = false ∧ n = 0 ∧ l = [])
def HCandP (P Q : List Tx) (code : Int) : Prop :=
  (P.getD 0 [] = noT ∧ 1 < P.length ∧ (∃ b, NumP (P.getD 1 []) code b) ∧ Q = P.drop 1) ∨ (¬ (P.getD 0 [] = noT ∧ 1 < P.length) ∧ code = 0 ∧ Q = P)
theorem NumP.same {m s : Int} {p : Tx} {b : Bool} (h : NumP p m b) (hp : p = Lib.itoa s) (h0 : 0 ≤ s) (h1 : s ≤ 9223372036854775807) : m = s := by
  subst hp
  cases b with
  | true => exact itoa_inj h.1.1 h.1.2 (by omega) h1 (h.2.1 rfl)
  | false => exact absurd rfl (h.2.2 rfl s (by omega) h1)
theorem HexP.same {f g : Nat → Nat} {n m : Nat} {p : Tx} {b : Bool} (h : HexP p f n b) (hp : p = hexT g m) (hg : ∀ i, g i < 256) : hexT f n = hexT g m := by
  subst hp
  cases b with
  | true => exact h.2.1 rfl
  | false => exact absurd rfl (h.2.2 rfl g m hg)
theorem hear_cand {line : Tx} {Q : List Tx} {code size code' size' : Int} {dn dn' : Bool} {f f' : Nat → Nat} {n n' : Nat} {l l' : List Nm} (hP : HCandP (cutT line) Q code) (hQ : HCandQ Q size dn f n l)
    (hb : badT code' size' l' = false) (hc1 : code' ≤ 9223372036854775807) (hs1 : size' ≤ 9223372036854775807) (hf' : ∀ i, f' i < 256) (hl : lineT code' size' dn' f' n' l' = line) :
    badT code size l = false ∧ lineT code size dn f n l = line := by
  obtain ⟨b1, b2, b3⟩ := bad_not hb
  have hcut : cutT line = wordsT code' size' dn' f' n' l' := by rw [← hl]; exact cut_line hf' b3
  have fin : ∀ x : Tx, Q = x :: Lib.itoa size' :: hexT f' n' :: restT dn' l' → code = code' → badT code size l = false ∧ lineT code size dn f n l = line := fun x hq hc => by
    rcases hQ with ⟨_, ⟨b, hn⟩, ⟨b', hh⟩, hd⟩ | ⟨h3, _⟩
    · have e1 : size = size' := hn.same (by rw [hq]; rfl) b2 hs1
      have e2 : hexT f n = hexT f' n' := hh.same (by rw [hq]; rfl) hf'
      have e3 : dn = dn' ∧ l = l' := by
        have hr : Q.drop 3 = restT dn' l' := by rw [hq]; rfl
        rw [hr] at hd
        rcases hd with ⟨e, r, h1, h2⟩ | ⟨e, h1, h2⟩
        · subst e h2
          cases dn' with
          | true =>
            have : doneT :: l' = doneT :: l := by simpa [restT] using h1
            injection this with _ this
            exact ⟨rfl, this.symm⟩
          | false =>
            have : l' = doneT :: l := by simpa [restT] using h1
            rw [this, List.any_cons, odd_done] at b3
            cases b3
        · subst e
          cases dn' with
          | true => exact absurd (by simp [restT]) (h1 l')
          | false => exact ⟨rfl, by rw [h2]; simp [restT]⟩
      obtain ⟨e3, e4⟩ := e3
      subst hc e1 e3 e4
      refine ⟨hb, ?_⟩
      rw [← hl]
      unfold lineT
      rw [e2]
    · rw [hq] at h3
      simp at h3
      omega
  by_cases hz : code' = 0
  · rw [words_zero hz] at hcut
    rcases hP with ⟨h0, _⟩ | ⟨_, h0, hq⟩
    · rw [hcut] at h0
      exact absurd h0 (by show ¬ okT = noT; decide)
    · exact fin okT (by rw [hq, hcut]) (h0.trans hz.symm)
  · rw [words_code hz] at hcut
    rcases hP with ⟨_, _, ⟨b, hn⟩, hq⟩ | ⟨h0, _⟩
    · exact fin (Lib.itoa code') (by rw [hq, hcut]; rfl) (hn.same (by rw [hcut]; rfl) b1 hc1)
    · exact absurd ⟨by rw [hcut]; rfl, by rw [hcut]; simp⟩ h0
/-- the program's answer -/
theorem hear_good {line : Tx} {code size : Int} {dn : Bool} {f : Nat → Nat} {n : Nat} {l : List Nm} (hf : ∀ i, f i < 256) (hc1 : code ≤ 9223372036854775807) (hs1 : size ≤ 9223372036854775807) (hb : badT code size l = false) (hl : lineT code size dn f n l = line) : HrP line code size dn f n l 0 := ⟨hf, .inl ⟨rfl, hb, hc1, hs1, hl⟩⟩
theorem hear_none {line : Tx} (h : NoTold line) : HrP line 0 0 false (fun _ => 0) 0 [] 4 := ⟨fun _ => by show 0 < 256; decide, .inr ⟨rfl, rfl, rfl, rfl, rfl, rfl, h⟩⟩
theorem no_told {line : Tx} {Q : List Tx} {code size : Int} {dn : Bool} {f : Nat → Nat} {n : Nat} {l : List Nm} (hP : HCandP (cutT line) Q code) (hQ : HCandQ Q size dn f n l) (h : ¬ (badT code size l = false ∧ lineT code size dn f n l = line)) : NoTold line :=
  fun code' size' dn' f' n' l' hb hc1 hs1 hf' hl => h (hear_cand hP hQ hb hc1 hs1 hf' hl)
/-- what the reference asks of a line's words -/
theorem told_shape {line : Tx} {code size : Int} {dn : Bool} {f : Nat → Nat} {n : Nat} {l : List Nm} (hb : badT code size l = false) (hf : ∀ i, f i < 256) (hl : lineT code size dn f n l = line) :
    (code = 0 ∧ cutT line = okT :: Lib.itoa size :: hexT f n :: restT dn l) ∨ (1 ≤ code ∧ cutT line = noT :: Lib.itoa code :: Lib.itoa size :: hexT f n :: restT dn l) := by
  obtain ⟨b1, b2, b3⟩ := bad_not hb
  rw [← hl, cut_line hf b3]
  by_cases hz : code = 0
  · exact .inl ⟨hz, words_zero hz⟩
  · exact .inr ⟨by omega, words_code hz⟩
theorem told_line {line : Tx} {code size : Int} {dn : Bool} {f : Nat → Nat} {n : Nat} {l : List Nm} (h : cutT line = wordsT code size dn f n l) : lineT code size dn f n l = line := by
  obtain ⟨a, t, e, hs, _⟩ := cut_join line
  rw [hs, ← words_line, ← h, e, Lib.join_cons]
end Go.Proofs.YtaommipcdcncnaaDoor.desk
