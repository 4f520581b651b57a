import Derived.Test.YtjmjnodaohbpfaaRbAll
import Derived.Test.YtjmjnodaohbpfaaSolveGen
/-
  Contract of the reference's hasInt; memory of the columns that the reference rebuilds.
-/
namespace Go.Proofs.Ytjmjnodaohbpfaa.par
open Go.ChangeShapes Go.WideShapes Go.ChangeAt Go.RowKit Go.Proofs.Ytjmjnodaohbpfaa.kit Go.Proofs.Ytjmjnodaohbpfaa.gf Go.Proofs.Ytjmjnodaohbpfaa.fld Go.Deep
set_option linter.unusedVariables false
set_option maxRecDepth 100000

theorem hasInt_any (B : Option Addr) (m c : Nat) (D : Nat → Int) (z : Int) (w : World) (hD : RdI .i64 w B m D) :
    Calls Try.prog 30 #[.slice B m c, .int .i64 z] w fun e w' => e = .returned (.bool (hasD D m z)) ∧ w = w' := by
  have hm := hD.1
  unfold maxLen at hm
  have hD0 := Lib.hid hD
  obtain ⟨r, hr⟩ : ∃ r, Hid (r = hasD D m z) := ⟨_, rfl⟩
  rw [← hr.out]
  clear hD
  go_enter Try.func30, Try.ntmps30
  go_wp2
  go_loop [9] (fun x => ∃ i : Nat, x = .int .i64 i ∧ i ≤ m ∧ Hid (hasD D i z = false)) (fun x => m - (intOf x).toNat)
  case atStart => exact ⟨0, rfl, by omega, hasD_zero D z⟩
  case round =>
    obtain ⟨i, rfl, hi, hno⟩ := hrel
    by_cases hlt : i < m
    · obtain ⟨b, off, rfl, hb, hcs⟩ := hD0.out.2 (by omega)
      have c0 := hcs i hlt
      have a0 : (0 : Int) ≤ (i : Int) := by omega
      have a1 : (i : Int) < (m : Int) := by omega
      clear hcs
      by_cases he : D i = z
      · have hyes : Hid (hasD D m z = true) := hasD_iff.2 ⟨i, hlt, he⟩
        have heq : (D i == z) = true := by simp [he]
        clear he hno
        rw [hyes.out] at hr
        go_wp2
        go_ret
        exact ⟨retb hr.out.symm, rfl⟩
      · have hno2 : Hid (hasD D (i + 1) z = false) := by
          show _ = false
          rw [hasD_succ, hno.out, decide_eq_false he]; rfl
        have heq : (D i == z) = false := by simp [he]
        clear he hno
        go_wp2
        go_round
        case rel => exact ⟨i + 1, by go_num, by omega, hno2.out⟩
        case measure => simp [intOf]; omega
    · have him : i = m := by omega
      subst him
      rw [hno.out] at hr
      go_wp2
      go_ret
      exact ⟨retb hr.out.symm, rfl⟩
theorem RdI.pre {k : IntKind} {w : World} {A : Option Addr} {n m : Nat} {Z : Nat → Int} (h : RdI k w A n Z) (hm : m ≤ n) : RdI k w A m Z :=
  ⟨Nat.le_trans hm h.1, fun h0 => by
    obtain ⟨b, off, hA, hb, hc⟩ := h.2 (by omega)
    exact ⟨b, off, hA, hb, fun i hi => hc i (by omega)⟩⟩
theorem rbCode_4 {N : Nat} {L : Nat → Nat} {p : Int} {D : Nat → Int} {m : Nat} (hr : rgP N p) (h : lOK (gn D m) L N = false) : rbCode N L p D m = 4 := by
  unfold rbCode
  rw [if_neg (fun e => e hr), if_pos h]
theorem rbCode_2 {N : Nat} {L : Nat → Nat} {p : Int} {D : Nat → Int} {m : Nat} (hr : rgP N p) (h : lOK (gn D m) L N = true) (ho : outD N D m = true) : rbCode N L p D m = 2 := by
  unfold rbCode
  rw [if_neg (fun e => e hr), if_neg (by rw [h]; simp), if_pos ho]
theorem rbCode_7 {N : Nat} {L : Nat → Nat} {p : Int} {D : Nat → Int} {m : Nat} (hr : rgP N p) (h : lOK (gn D m) L N = true) (ho : outD N D m = false) (hd : dupD D m = true) : rbCode N L p D m = 7 := by
  unfold rbCode
  rw [if_neg (fun e => e hr), if_neg (by rw [h]; simp), if_neg (by rw [ho]; simp), if_pos hd]
theorem rbCode_12 {N : Nat} {L : Nat → Nat} {p : Int} {D : Nat → Int} {m : Nat} (hr : rgP N p) (h : lOK (gn D m) L N = true) (ho : outD N D m = false) (hd : dupD D m = false) (hm : p < m) : rbCode N L p D m = 12 := by
  unfold rbCode
  rw [if_neg (fun e => e hr), if_neg (by rw [h]; simp), if_neg (by rw [ho]; simp), if_neg (by rw [hd]; simp), if_pos hm]
theorem rbCode_0 {N : Nat} {L : Nat → Nat} {p : Int} {D : Nat → Int} {m : Nat} (hr : rgP N p) (h : lOK (gn D m) L N = true) (ho : outD N D m = false) (hd : dupD D m = false) (hm : ¬ p < m) : rbCode N L p D m = 0 := by
  unfold rbCode
  rw [if_neg (fun e => e hr), if_neg (by rw [h]; simp), if_neg (by rw [ho]; simp), if_neg (by rw [hd]; simp), if_neg hm]
/-- the length that is looked for, so far -/
def szI (G : Nat → Bool) (L : Nat → Nat) (i : Nat) : Int := if lf G i = [] then -1 else (lSize G L i : Nat)
theorem szI_zero (G : Nat → Bool) (L : Nat → Nat) : szI G L 0 = -1 := rfl
set_option maxHeartbeats 4000000 in
theorem ParRebuild_bad (N c m d : Nat) (p : Int) (A B : Option Addr) (D : Nat → Int) (R : Nat → Option Addr) (L C : Nat → Nat) (M : Nat → Nat → Int) (w : World) (hM : RdM .u8 w A N R L C M)
    (hD : RdI .i64 w B m D) (hp1 : -9223372036854775808 ≤ p) (hp2 : p ≤ 9223372036854775807) (hrg : ¬ rgP N p) :
    Calls Try.prog 14 #[.slice A N c, .int .i64 p, .slice B m d] w fun e w' => e = .returned (.tuple #[.slice none 0 0, .int .i64 2]) ∧ w = w' := by
  have hN := hM.1
  unfold maxLen at hN
  unfold rgP at hrg
  clear hM hD
  by_cases h1 : p < 1
  · clear hrg
    go_enter Try.func14, Try.ntmps14
    go_wp2
    go_ret2
    exact ⟨rfl, rfl⟩
  · by_cases h3 : 3 < p
    · clear hrg
      go_enter Try.func14, Try.ntmps14
      go_wp2
      go_ret2
      exact ⟨rfl, rfl⟩
    · by_cases h4 : (N : Int) - p < 1
      · clear hrg
        go_enter Try.func14, Try.ntmps14
        go_wp2
        go_ret2
        exact ⟨rfl, rfl⟩
      · have h5 : 12 < (N : Int) - p := by omega
        clear hrg
        go_enter Try.func14, Try.ntmps14
        go_wp2
        go_ret2
        exact ⟨rfl, rfl⟩
section
variable {w0 w w' : World} {o M N n sz hi : Nat} {G : Nat → Bool} {V : Nat → Value} {Ad : Nat → Option Addr} {Gr Cp : Nat → Nat} {F : Nat → Nat → Nat}
/-- a column that was lost is laid, whatever its room -/
theorem RO.addK (h : RO w0 o M N n sz hi G V Ad Gr Cp F w) {j c g : Nat} {A : Option Addr} {f : Nat → Nat} (hj : j < N) (hnj : n ≤ j) (hr : 0 < sz → A = some ⟨g, 0, none⟩ ∧ RowK 5 .u8 w g sz f ∧ hi ≤ g) (hc : sz ≤ c ∧ c ≤ maxLen) (hf : ∀ t, f t < 256) (hw : w0.heap.size ≤ hi) (hhi : hi ≤ w.heap.size) (hG : G j = true) :
    RO w0 o M N n sz (w.setCell ⟨o, j, none⟩ (.slice A sz c)).heap.size (up G j false) (up V j (.slice A sz c)) (up Ad j A) (up Gr j g) (up Cp j c) (up F j f) (w.setCell ⟨o, j, none⟩ (.slice A sz c)) := by
  have hgr := grown_set w o j (.slice A sz c)
  have hP : ∀ k, k ≠ j → Pr n (up G j false) k → Pr n G k := fun k e a => by
    rcases a with a | a
    · exact .inl a
    · rw [up_ne _ _ e] at a; exact .inr a
  have hB : ∀ k, k ≠ j → Bk sz n (up G j false) k → Bk sz n G k := fun k e a => by
    refine ⟨hP k e a.1, ?_⟩
    rcases a.2 with b | b
    · exact .inl b
    · rw [up_ne _ _ e] at b; exact .inr b
  have hJ : Bk sz n (up G j false) j → 0 < sz := fun a => by
    rcases a.2 with b | b
    · exact b
    · omega
  rw [set_size]
  refine ⟨h.nw.grown1 hgr h.old.1, h.out.set j _, ⟨h.old.1, by have := h.old.2; omega⟩, fun k a b => ?_, fun k a b c' => ?_, fun k a b c' => ?_, fun k l a b c' d e => ?_, fun k a b => ?_, fun k t => ?_⟩
  · by_cases e : k = j
    · subst e; rw [up_at, up_at, up_at]; exact ⟨rfl, hc⟩
    · rw [up_ne _ _ e, up_ne _ _ e, up_ne _ _ e]; exact h.val k a (hP k e b)
  · by_cases e : k = j
    · subst e; rw [up_at, up_at, up_at]
      obtain ⟨h1, h2, _⟩ := hr c'
      exact ⟨h1, h2.grown hgr (fun e => h2.ne_row h.out (by decide) (by cases e; rfl))⟩
    · rw [up_ne _ _ e, up_ne _ _ e, up_ne _ _ e]
      obtain ⟨h1, h2⟩ := h.row k a (hP k e b) c'
      exact ⟨h1, h2.grown hgr (fun e => h2.ne_row h.out (by decide) (by cases e; rfl))⟩
  · have e : k ≠ j := by omega
    rw [up_ne _ _ e] at c'
    rw [up_ne _ _ e, up_ne _ _ e, up_ne _ _ e]
    obtain ⟨h1, h2⟩ := h.hole k a b c'
    exact ⟨h1, row_grown h2 hgr (fun e => row_typ h2 h.out (by decide) (by cases e; rfl))⟩
  · by_cases e1 : k = j
    · subst e1
      rw [up_at, up_ne _ _ (fun x => e x.symm)]
      have := (h.lo l b (hB l (fun x => e x.symm) d)).2
      have := (hr (hJ c')).2.2
      omega
    · rw [up_ne _ _ e1]
      by_cases e2 : l = j
      · subst e2
        rw [up_at]
        have := (h.lo k a (hB k e1 c')).2
        have := (hr (hJ d)).2.2
        omega
      · rw [up_ne _ _ e2]
        exact h.inj k l a b (hB k e1 c') (hB l e2 d) e
  · by_cases e : k = j
    · subst e; rw [up_at]
      obtain ⟨_, h2, h3⟩ := hr (hJ b)
      have := h2.lt
      omega
    · rw [up_ne _ _ e]
      have := h.lo k a (hB k e b)
      exact ⟨this.1, by omega⟩
  · by_cases e : k = j
    · subst e; rw [up_at]; exact hf t
    · rw [up_ne _ _ e]; exact h.by_ k t
theorem rowK_set {t : TypeId} {k : IntKind} {w : World} {g m : Nat} {f : Nat → Nat} (h : RowK t k w g m f) (i x : Nat) : RowK t k (w.setCell ⟨g, i, none⟩ (.int k (x : Nat))) g m (fun j => if j = i then x else f j) := by
  obtain ⟨cs, h1, h2⟩ := h
  refine ⟨cs.setIfInBounds i (.int k (x : Nat)), Blk.put (t := t) h1 i _, fun j hj => ?_⟩
  have h3 := h2 j hj
  show _ = some (Value.int k ((if j = i then x else f j : Nat) : Int))
  by_cases e : j = i
  · subst e
    rw [if_pos rfl, Array.getElem?_setIfInBounds_self_of_lt (Array.getElem?_eq_some_iff.1 h3).1]
  · rw [if_neg e, Array.getElem?_setIfInBounds_ne (fun x => e x.symm)]
    exact h3
/-- a byte of a column is written -/
theorem RO.cell (h : RO w0 o M N 0 sz hi G V Ad Gr Cp F w) {j i x : Nat} (hj : j < N) (hG : G j = false) (hi' : i < sz) (hx : x < 256) :
    RO w0 o M N 0 sz hi G V Ad Gr Cp (fun k t => if k = j ∧ t = i then x else F k t) (w.setCell ⟨Gr j, i, none⟩ (.int .u8 (x : Nat))) := by
  have hgr := grown_set w (Gr j) i (.int .u8 ((x : Nat) : Int))
  have hs : 0 < sz := by omega
  have hBj : Bk sz 0 G j := ⟨.inr hG, .inl hs⟩
  obtain ⟨ha, hrow⟩ := h.row j hj (.inr hG) hs
  refine ⟨h.nw.grown1 hgr (h.lo j hj hBj).1, row_grown h.out hgr (fun e => hrow.ne_row h.out (by decide) (by cases e; rfl)), h.old, h.val, fun k a b c => ⟨(h.row k a b c).1, ?_⟩, fun k a b => absurd b (Nat.not_lt_zero _), h.inj, h.lo, fun k t => ?_⟩
  · by_cases e : k = j
    · subst e
      refine (rowK_set hrow i x).congr fun t ht => ?_
      by_cases e2 : t = i
      · rw [if_pos e2, if_pos ⟨rfl, e2⟩]
      · rw [if_neg e2, if_neg (fun e3 => e2 e3.2)]
    · refine ((h.row k a b c).2.grown hgr (by have := h.inj j k hj a hBj ⟨b, .inl c⟩ (fun x => e x.symm); simpa using this)).congr fun t ht => ?_
      rw [if_neg (fun e3 => e e3.1)]
  · show (if k = j ∧ t = i then x else F k t) < 256
    split
    · exact hx
    · exact h.by_ k t
end
theorem fillF_at {X W : Nat → Nat → Nat} {h : Nat} {H : Nat → Nat} {F : Nat → Nat → Nat} : ∀ {b a : Nat}, a < b → (∀ q, a < q → q < b → H q ≠ H a) → fillF X W h H F b (H a) = fun t => xs h fun c => mul (X a c) (W c t)
  | 0, _, h, _ => absurd h (Nat.not_lt_zero _)
  | b + 1, a, hab, hd => by
    show (if H a = H b then (fun t => xs h fun c => mul (X b c) (W c t)) else fillF X W h H F b (H a)) = _
    by_cases e : a = b
    · subst e; rw [if_pos rfl]
    · rw [if_neg (fun x => hd b (by omega) (by omega) x.symm), fillF_at (by omega) fun q h1 h2 => hd q h1 (by omega)]
/-- the data columns that were not lost -/
theorem rbD_other {G : Nat → Bool} {n p : Nat} {M : Nat → Nat → Int} {k : Nat} (h : k ∉ hfL G n) : rbD G n p M k = rb0 G M k :=
  fillF_other fun q hq e => h (by rw [← e]; exact get_mem hq)
theorem get_ltt {l : List Nat} (hl : l.Pairwise (· < ·)) {a b : Nat} (hab : a < b) (hb : b < l.length) : l.getD a 0 < l.getD b 0 := by
  have h1 : l.getD a 0 = l[a] := by simp [List.getD, (by omega : a < l.length)]
  have h2 : l.getD b 0 = l[b] := by simp [List.getD, hb]
  rw [h1, h2]
  exact List.pairwise_iff_getElem.1 hl a b (by omega) hb hab
theorem rbD_at {G : Nat → Bool} {n p : Nat} {M : Nat → Nat → Int} {a : Nat} (ha : a < (hfL G n).length) (t : Nat) : rbD G n p M ((hfL G n).getD a 0) t =
    invV (facM (fun b => (pfL G n p).getD b 0) (fun a => (hfL G n).getD a 0)) (hfL G n).length (fun b => wantF n (rb0 G M) (fun b => (pfL G n p).getD b 0) b t) a := by
  unfold rbD
  rw [fillF_at (H := fun a => (hfL G n).getD a 0) ha fun q h1 h2 => by have := get_ltt (hfL_inc G n) h1 h2; show (hfL G n).getD q 0 ≠ (hfL G n).getD a 0; omega]
  rfl
/-- what is still gone, the first a holes being laid -/
def Ga (G : Nat → Bool) (l : List Nat) (a : Nat) : Nat → Bool := fun k => if k ∈ l.take a then false else G k
theorem Ga_zero (G : Nat → Bool) (l : List Nat) : Ga G l 0 = G := by funext k; simp [Ga]
theorem Ga_next (G : Nat → Bool) {l : List Nat} {a : Nat} (ha : a < l.length) : up (Ga G l a) (l.getD a 0) false = Ga G l (a + 1) := by
  funext k
  have h1 : l.take (a + 1) = l.take a ++ [l.getD a 0] := by
    rw [List.take_succ_eq_append_getElem ha]; simp [List.getD, ha]
  unfold up Ga
  rw [h1]
  by_cases e : k = l.getD a 0
  · rw [if_pos e, if_pos (by rw [e]; simp)]
  · rw [if_neg e]
    by_cases e2 : k ∈ l.take a
    · rw [if_pos e2, if_pos (List.mem_append_left _ e2)]
    · rw [if_neg e2, if_neg (by rw [List.mem_append]; rintro (h | h); exact e2 h; exact e (by simpa using h))]
theorem Ga_new {G : Nat → Bool} {n a : Nat} (ha : a < (hfL G n).length) : Ga G (hfL G n) a ((hfL G n).getD a 0) = true := by
  unfold Ga
  rw [if_neg, (hfL_mem.1 (get_mem ha)).2]
  intro h
  obtain ⟨q, hq, he⟩ := List.getElem_of_mem h
  have hq2 : q < a := by simp at hq; omega
  have h1 : (hfL G n).getD q 0 = (hfL G n).getD a 0 := by
    rw [← he]; simp [List.getD, (by omega : q < (hfL G n).length)]
  have := get_ltt (hfL_inc G n) hq2 ha
  omega
theorem Ga_all {G : Nat → Bool} {n k : Nat} (hk : k < n) : Ga G (hfL G n) (hfL G n).length k = false := by
  unfold Ga
  rw [List.take_length]
  split
  · rfl
  · rename_i h
    cases hg : G k with
    | false => rfl
    | true => exact absurd (hfL_mem.2 ⟨hk, hg⟩) h
theorem Ga_par {G : Nat → Bool} {n k a : Nat} (hk : n ≤ k) : Ga G (hfL G n) a k = G k := by
  unfold Ga
  rw [if_neg]
  intro h
  have := (hfL_mem.1 (List.mem_of_mem_take h)).1
  omega
theorem Ga_old {G : Nat → Bool} {l : List Nat} {k a : Nat} (h : G k = false) : Ga G l a k = false := by
  unfold Ga
  split
  · rfl
  · exact h
theorem Ga_in {G : Nat → Bool} {l : List Nat} {a b : Nat} (hab : a < b) (ha : a < l.length) : Ga G l b (l.getD a 0) = false := by
  unfold Ga
  rw [if_pos]
  have h1 : l.getD a 0 = (l.take b)[a]'(by simp; omega) := by simp [List.getD, ha]
  rw [h1]
  exact List.getElem_mem _
theorem run_append_none0 {P : Program} {w : World} (base : Nat) (t ty e : TypeId) (i : TypeInfo) (size : Nat) (ht : P.underlying t = some (.slice e)) (hi : P.info? e = some i)
    (v : Value) (n c : Nat) (xs : List Value) (hown : w.ownsRow base e size v n xs) : (Builtin.append_ #[t, t] ty #[v, .slice none 0 c]).run P w = .ok v w := by
  rcases hown.2 with ⟨rfl, rfl⟩ | ⟨g, cap, cur, rfl, _, _, hnc, _⟩
  · simp [Builtin.append_, run_underlying ht, sizeOf, typeInfo, hi, Builtin.lenOf, Builtin.firstCells]
  · simp [Builtin.append_, run_underlying ht, sizeOf, typeInfo, hi, Builtin.lenOf, Builtin.firstCells, hnc, storeCells]
theorem wpList_append_none0 {P : Program} {w : World} {ops : Array Oper} {rest : List Oper} {o : Oper} {a : Act} {Q : Exit → Act → World → Prop} (hgd : o.guard = none) (s x : Operand) (t : TypeId)
    (ho : o.op = .call { callee := .builtin .append, args := #[s, x], argTypes := #[t, t] })
    (base : Nat) (e : TypeId) (i : TypeInfo) (size : Nat) (ht : P.underlying t = some (.slice e)) (hi : P.info? e = some i)
    (v : Value) (n c : Nat) (xs : List Value) (hs : a.eval s = v) (hown : w.ownsRow base e size v n xs) (hx : a.eval x = .slice none 0 c)
    (h : wpList P ops Q rest (a.put o.dst v) w) : wpList P ops Q (o :: rest) a w := by
  refine wpList_plain hgd fun K hK => ?_
  have hrun := run_append_none0 (P := P) (w := w) base t o.type e i size ht hi v n c xs hown
  unfold Oper.wp
  simp [execOp, ho, resolve, invoke, builtin, hs, hx, hrun, Result.andThen]
  exact hK _ _ h
/-- what a copy is -/
def CopyP (sz : Nat) (f : Nat → Nat) (B : Nat) (A : Option Addr) (c : Nat) (w : World) : Prop := (sz ≤ c ∧ c ≤ maxLen) ∧ (0 < sz → ∃ g, A = some ⟨g, 0, none⟩ ∧ RowK 5 .u8 w g sz f ∧ B ≤ g)
theorem CopyP.of_own {sz : Nat} {f : Nat → Nat} {B : Nat} {v : Value} {w : World} (h : w.ownsRow B 5 1 v sz (numL .u8 f sz)) : ∃ A c, v = .slice A sz c ∧ CopyP sz f B A c w := by
  obtain ⟨A, c, rfl, h1, h2, h3, _⟩ := own_open h
  refine ⟨A, c, rfl, ⟨h1, h2⟩, fun h0 => ?_⟩
  obtain ⟨g, rfl, hg, _⟩ := h3 h0
  exact ⟨g, rfl, RowK.of_own h, hg⟩
theorem ul_yes {G : Nat → Bool} {n j h : Nat} (hl : ((pfL G n j).take h).length < h) (hG : G (n + j) = false) : (pfL G n (j + 1)).take h = (pfL G n j).take h ++ [j] := by
  rw [pfL_yes hG]
  rw [List.length_take] at hl
  have h1 : (pfL G n j).length < h := by omega
  rw [List.take_of_length_le (by rw [List.length_append]; simp; omega), List.take_of_length_le (by omega)]
theorem ul_gone {G : Nat → Bool} {n j h : Nat} (hG : G (n + j) = true) : (pfL G n (j + 1)).take h = (pfL G n j).take h := by rw [pfL_no hG]
theorem ul_full {G : Nat → Bool} {n j h : Nat} (hl : ¬ ((pfL G n j).take h).length < h) : (pfL G n (j + 1)).take h = (pfL G n j).take h := by
  rw [List.length_take] at hl
  cases hG : G (n + j) with
  | true => rw [pfL_no hG]
  | false => rw [pfL_yes hG, List.take_append_of_le_length (by omega)]
theorem own_keep {w w' : World} {b s n m base : Nat} {e : TypeId} {A AU : Option Addr} {c cU : Nat} {xs : List Value} (h : w.ownsRow b e s (.slice A n c) n xs) (hg : w.grownBy w' (Value.slice AU m cU).ownBlock) (hA : ∀ g, A = some ⟨g, 0, none⟩ → g < base) (hlo : ∀ r, (Value.slice AU m cU).ownBlock = some r → base ≤ r) : w'.ownsRow b e s (.slice A n c) n xs := by
  refine h.kept hg ?_
  by_cases e : (Value.slice A n c).ownBlock = none
  · exact .inl e
  · right
    intro e2
    obtain ⟨g, hg⟩ := Option.ne_none_iff_exists'.1 e
    rw [hg] at e2
    have h1 := hlo g e2.symm
    rcases h.2 with ⟨h2, _⟩ | ⟨g', cap, cur, h2, _⟩
    · cases h2; cases hg
    · cases h2
      have h3 := hA g' rfl
      have h4 : g' = g := by simpa [Value.ownBlock] using hg
      omega
theorem has_hole {G : Nat → Bool} {n i : Nat} (hi : i < n) : hasD (fun q => (((hfL G n).getD q 0 : Nat) : Int)) (hfL G n).length (i : Int) = G i := by
  cases hG : G i with
  | true =>
    refine hasD_iff.2 ?_
    obtain ⟨q, hq, he⟩ := List.getElem_of_mem (hfL_mem.2 ⟨hi, hG⟩ : i ∈ hfL G n)
    exact ⟨q, hq, by simp [List.getD, hq, he]⟩
  | false =>
    refine hasD_false.2 fun q hq he => ?_
    have h1 := (hfL_mem.1 (get_mem hq)).2
    have h2 : (hfL G n).getD q 0 = i := by omega
    rw [h2, hG] at h1
    cases h1
/-- the columns, as far as the first t places are solved -/
def Fk (G : Nat → Bool) (n p : Nat) (M : Nat → Nat → Int) (t : Nat) : Nat → Nat → Nat := fun i u => if u < t then rbD G n p M i u else rb0 G M i u
theorem Fk_lt (G : Nat → Bool) (n p : Nat) (M : Nat → Nat → Int) (t i u : Nat) : Fk G n p M t i u < 256 := by
  unfold Fk
  split
  · exact rbD_lt G n p M i u
  · exact rb0_lt G M i u
/-- .. and the first b holes at the place t -/
def Fb (G : Nat → Bool) (n p : Nat) (M : Nat → Nat → Int) (t b : Nat) : Nat → Nat → Nat := fun i u => if u < t ∨ u = t ∧ i ∈ (hfL G n).take b then rbD G n p M i u else rb0 G M i u
theorem Fb_zero (G : Nat → Bool) (n p : Nat) (M : Nat → Nat → Int) (t : Nat) : Fb G n p M t 0 = Fk G n p M t := by
  funext i u
  unfold Fb Fk
  by_cases h : u < t
  · rw [if_pos (.inl h), if_pos h]
  · rw [if_neg h, if_neg]
    rintro (h2 | h2)
    · exact h h2
    · simp at h2
theorem Fb_lt (G : Nat → Bool) (n p : Nat) (M : Nat → Nat → Int) (t b i u : Nat) : Fb G n p M t b i u < 256 := by
  unfold Fb
  split
  · exact rbD_lt G n p M i u
  · exact rb0_lt G M i u
theorem Fb_next {G : Nat → Bool} {n p : Nat} {M : Nat → Nat → Int} {t b : Nat} (hb : b < (hfL G n).length) (i u : Nat) :
    (if i = (hfL G n).getD b 0 ∧ u = t then rbD G n p M ((hfL G n).getD b 0) t else Fb G n p M t b i u) = Fb G n p M t (b + 1) i u := by
  have h1 : (hfL G n).take (b + 1) = (hfL G n).take b ++ [(hfL G n).getD b 0] := by
    rw [List.take_succ_eq_append_getElem hb]; simp [List.getD, hb]
  unfold Fb
  rw [h1]
  by_cases e : i = (hfL G n).getD b 0 ∧ u = t
  · rw [if_pos e, if_pos (.inr ⟨e.2, by rw [e.1]; simp⟩), e.1, e.2]
  · rw [if_neg e]
    by_cases e2 : u < t ∨ u = t ∧ i ∈ (hfL G n).take b
    · rw [if_pos e2, if_pos]
      rcases e2 with e2 | e2
      · exact .inl e2
      · exact .inr ⟨e2.1, List.mem_append_left _ e2.2⟩
    · rw [if_neg e2, if_neg]
      rintro (h2 | ⟨h2, h3⟩)
      · exact e2 (.inl h2)
      · rw [List.mem_append] at h3
        rcases h3 with h3 | h3
        · exact e2 (.inr ⟨h2, h3⟩)
        · exact e ⟨by simpa using h3, h2⟩
theorem Fb_all (G : Nat → Bool) (n p : Nat) (M : Nat → Nat → Int) (t : Nat) : Fb G n p M t (hfL G n).length = Fk G n p M (t + 1) := by
  funext i u
  unfold Fb Fk
  rw [List.take_length]
  by_cases e : u < t ∨ u = t ∧ i ∈ hfL G n
  · rw [if_pos e, if_pos (by omega)]
  · rw [if_neg e]
    by_cases h : u < t + 1
    · rw [if_pos h, rbD_other (fun hm => e (.inr ⟨by omega, hm⟩))]
    · rw [if_neg h]
theorem Fk_none {G : Nat → Bool} {n p : Nat} {M : Nat → Nat → Int} (h : (hfL G n).length = 0) : Fk G n p M 0 = rbD G n p M := by
  funext i u
  unfold Fk
  rw [if_neg (Nat.not_lt_zero _), rbD_other (by rw [List.eq_nil_of_length_eq_zero h]; simp)]
theorem Fk_zero (G : Nat → Bool) (n p : Nat) (M : Nat → Nat → Int) : Fk G n p M 0 = rb0 G M := by
  funext i u
  unfold Fk
  rw [if_neg (Nat.not_lt_zero _)]
/-- the list that is being made -/
def vF (W : Nat → Nat) (b x : Nat) : Nat → Value := fun i => .int .i64 ((if i < b then W i else if i = b then x else 0 : Nat) : Int)
theorem vF_zero (W : Nat → Nat) : (fun _ : Nat => Value.int .i64 0) = vF W 0 0 := by
  funext i
  unfold vF
  rw [if_neg (Nat.not_lt_zero _)]
  split <;> rfl
theorem vF_set (W : Nat → Nat) (b x y : Nat) : (fun i => if i = b then Value.int .i64 ((y : Nat) : Int) else vF W b x i) = vF W b y := by
  funext i
  unfold vF
  by_cases e : i = b
  · subst e; rw [if_pos rfl, if_neg (Nat.lt_irrefl _), if_pos rfl]
  · rw [if_neg e, if_neg e, if_neg e]
theorem vF_next (W : Nat → Nat) (b : Nat) : vF W b (W b) = vF W (b + 1) 0 := by
  funext i
  unfold vF
  by_cases e : i = b
  · subst e; rw [if_neg (Nat.lt_irrefl _), if_pos rfl, if_pos (Nat.lt_succ_self _)]
  · by_cases h : i < b
    · rw [if_pos h, if_pos (by omega)]
    · rw [if_neg h, if_neg e, if_neg (by omega)]
      split <;> rfl
theorem vF_at (W : Nat → Nat) (b x : Nat) : vF W b x b = .int .i64 (x : Nat) := by
  unfold vF
  rw [if_neg (Nat.lt_irrefl _), if_pos rfl]
theorem hfL_pos {G : Nat → Bool} {n i : Nat} (hi : i < n) (hG : G i = true) : (hfL G n).getD (hfL G i).length 0 = i := by
  have h1 : ∀ d, ∃ r, hfL G (i + 1 + d) = hfL G i ++ i :: r := fun d => by
    induction d with
    | zero => exact ⟨[], by rw [Nat.add_zero, hfL_yes hG]⟩
    | succ d ih =>
      obtain ⟨r, hr⟩ := ih
      rw [show i + 1 + (d + 1) = i + 1 + d + 1 by omega]
      cases hg : G (i + 1 + d) with
      | true => rw [hfL_yes hg, hr]; exact ⟨r ++ [i + 1 + d], by simp⟩
      | false => rw [hfL_no hg]; exact ⟨r, hr⟩
  obtain ⟨r, hr⟩ := h1 (n - (i + 1))
  rw [show i + 1 + (n - (i + 1)) = n by omega] at hr
  rw [hr]
  simp [List.getD]
end Go.Proofs.Ytjmjnodaohbpfaa.par

/-
  Contract of the reference: the equations of one place.
-/
namespace Go.Proofs.Ytjmjnodaohbpfaa.par
open Go.ChangeShapes Go.WideShapes Go.ChangeAt Go.RowKit Go.Proofs.Ytjmjnodaohbpfaa.kit Go.Proofs.Ytjmjnodaohbpfaa.gf Go.Proofs.Ytjmjnodaohbpfaa.fld Go.Deep
set_option linter.unusedVariables false
set_option maxRecDepth 100000
set_option maxHeartbeats 2000000 in
theorem solve_place {a n k j t g1 g2 : Nat} {G : Nat → Bool} {M : Nat → Nat → Int} {U H W : Nat → Nat} {w : World} {Gm Cm : Nat → Nat} {v0 : Value} (P : Pl k n a G U H) (hU : U = fun b => (pfL G n j).getD b 0) (hH : H = fun q => (hfL G n).getD q 0) (ha : a = (hfL G n).length)
    (hom : w.rowIs g1 29 a (ouF (fun i => .slice (some ⟨Gm i, 0, none⟩) a (Cm i)) a v0)) (hmr : ∀ i, i < a → RowK 3 .i64 w (Gm i) a (fun q => fcP (U i) (H q)) ∧ a ≤ Cm i ∧ Cm i ≤ maxLen)
    (hov : w.rowIs g2 3 a (vF W a 0)) (hW : W = fun b => wantF n (rb0 G M) U b t) :
    Calls Try.prog 31 #[.slice (some ⟨g1, 0, none⟩) a a, .slice (some ⟨g2, 0, none⟩) a a] w (mat.SolP a (fun b => rbD G n j M (H b) t) w) := by
  obtain ⟨h1, h3, n1, n12, N15, nN, u3, ui, up, hl, hi⟩ := id P
  have hWl : ∀ r, r < a → W r < 256 := fun r _ => by
    rw [hW]
    exact xor_lt8 (enN_lt _ _ _ _) (rb0_lt G M _ _)
  have hmay : mat.mayM a (fun _ => a) (fun i q => ((fcP (U i) (H q) : Nat) : Int)) = true := mat.mayM_true h1 (by omega) fun i hi => by
    unfold mat.rowP
    refine ⟨rfl, h1, (show a ≤ 8 by omega), mat.allE_true fun q hq => ?_⟩
    have := fcP_lt (U i) (H q)
    show 0 ≤ ((fcP (U i) (H q) : Nat) : Int) ∧ ((fcP (U i) (H q) : Nat) : Int) < 256
    omega
  have hrk := fac_rank (U := U) (H := H) h1 h3 u3 ui (fun a ha => by have := (hl a ha).1; omega) hi
  have hM : RdM .i64 w (some ⟨g1, 0, none⟩) a (fun i => some ⟨Gm i, 0, none⟩) (fun _ => a) Cm (fun i q => (fcP (U i) (H q) : Nat)) := by
    refine ⟨by unfold maxLen; omega, fun _ => ⟨g1, 0, rfl, hom.lt, fun i hi => ?_⟩, fun i hi => ⟨(hmr i hi).1.rdI (by unfold maxLen; omega), (hmr i hi).2⟩⟩
    have := hom.cell hi
    rw [Nat.zero_add, this]
    unfold ouF
    rw [if_pos hi]
  have hV : RdI .i64 w (some ⟨g2, 0, none⟩) a (fun i => (W i : Nat)) := by
    refine ⟨by unfold maxLen; omega, fun _ => ⟨g2, 0, rfl, hov.lt, fun i hi => ?_⟩⟩
    have := hov.cell hi
    rw [Nat.zero_add, this]
    unfold vF
    rw [if_pos hi]
  refine (mat.solved_gen (some ⟨g1, 0, none⟩) (some ⟨g2, 0, none⟩) a a a W _ _ _ _ w hM hmay rfl hrk hV hWl (by omega)).mono ?_
  rintro e w' ⟨g, c, he, hg, hr, hn⟩
  refine ⟨g, c, he, hg, hr.congr fun i hi => ?_, hn⟩
  show Value.int .i64 ((_ : Nat) : Int) = Value.int .i64 ((_ : Nat) : Int)
  congr 2
  have h2 := rbD_at (G := G) (n := n) (p := j) (M := M) (a := i) (by rw [← ha]; exact hi) t
  rw [← ha] at h2
  subst hW
  subst hU
  subst hH
  exact h2.symm
theorem rowK_frozen {t : TypeId} {k : IntKind} {w : World} {g m : Nat} {f : Nat → Nat} (h : RowK t k w g m f) (i : Nat) : w.frozen? ⟨g, i, none⟩ = false := by
  obtain ⟨cs, h1, _⟩ := h
  unfold World.frozen?
  simp [h1]
theorem rowK_ne {t t' : TypeId} {k k' : IntKind} {w : World} {g g' m m' : Nat} {f f' : Nat → Nat} (h : RowK t k w g m f) (h' : RowK t' k' w g' m' f') (hne : t ≠ t') : g ≠ g' := by
  rintro rfl
  obtain ⟨cs, h1, _⟩ := h
  obtain ⟨cs', h2, _⟩ := h'
  rw [h1] at h2
  simp at h2
  exact hne h2.2
theorem RO.fb_next {wa w : World} {o k n j sz hi t a b q : Nat} {G : Nat → Bool} {M : Nat → Nat → Int} {V : Nat → Value} {Ad : Nat → Option Addr} {Gr Cp : Nat → Nat} (h : RO wa o k k 0 sz hi (Ga G (hfL G n) a) V Ad Gr Cp (Fb G n j M t b) w)
    (hb : b < a) (ha : a = (hfL G n).length) (hq : q = (hfL G n).getD b 0) (hqk : q < k) (ht : t < sz) :
    RO wa o k k 0 sz hi (Ga G (hfL G n) a) V Ad Gr Cp (Fb G n j M t (b + 1)) (w.setCell ⟨Gr q, t, none⟩ (.int .u8 (rbD G n j M q t : Nat))) := by
  have hl : b < (hfL G n).length := by rw [← ha]; exact hb
  have hg : Ga G (hfL G n) a q = false := by rw [hq]; exact Ga_in hb hl
  refine (h.cell hqk hg ht (rbD_lt G n j M q t)).congr (fun i u _ _ _ => ?_) (Fb_lt G n j M t (b + 1))
  rw [← Fb_next hl, hq]
theorem Fk_end {G : Nat → Bool} {n j t sz i u : Nat} {M : Nat → Nat → Int} (h : (hfL G n).length = 0 ∨ sz ≤ t) (hu : u < sz) : Fk G n j M t i u = rbD G n j M i u := by
  unfold Fk
  by_cases e : u < t
  · rw [if_pos e]
  · rw [if_neg e]
    rcases h with h | h
    · rw [rbD_other (by rw [List.eq_nil_of_length_eq_zero h]; simp)]
    · omega
/-- which are still gone -/
def Gz (G : Nat → Bool) (m : Nat) : Nat → Bool := fun q => if q < m then false else G q
theorem Gz_start (G : Nat → Bool) (n : Nat) : Ga G (hfL G n) (hfL G n).length = Gz G n := by
  funext q
  unfold Gz
  by_cases e : q < n
  · rw [if_pos e, Ga_all e]
  · rw [if_neg e, Ga_par (by omega)]
theorem Gz_next (G : Nat → Bool) (m : Nat) : up (Gz G m) m false = Gz G (m + 1) := by
  funext q
  unfold up Gz
  by_cases e : q = m
  · rw [if_pos e, if_pos (by omega)]
  · rw [if_neg e]
    by_cases e2 : q < m
    · rw [if_pos e2, if_pos (by omega)]
    · rw [if_neg e2, if_neg (by omega)]
theorem Gz_at (G : Nat → Bool) (m : Nat) : Gz G m m = G m := by unfold Gz; rw [if_neg (by omega)]
theorem Gz_skip {G : Nat → Bool} {m : Nat} (h : G m = false) : Gz G m = Gz G (m + 1) := by
  funext q
  unfold Gz
  by_cases e : q = m
  · rw [e, if_neg (by omega), if_pos (by omega), h]
  · by_cases e2 : q < m
    · rw [if_pos e2, if_pos (by omega)]
    · rw [if_neg e2, if_neg (by omega)]
theorem Fj_begin (G : Nat → Bool) (n p : Nat) (M : Nat → Nat → Int) : Fj G n p M n = rbD G n p M := by
  funext k t
  unfold Fj
  rw [if_neg (by omega)]
theorem Fj_more {G : Nat → Bool} {n p m : Nat} {M : Nat → Nat → Int} (hn : n ≤ m) (h : G m = true) : up (Fj G n p M m) m (fun t => enN (m - n) (fun i t => (rbD G n p M i t : Nat)) n t) = Fj G n p M (m + 1) := by
  funext k t
  unfold up Fj
  by_cases e : k = m
  · rw [if_pos e, if_pos ⟨by omega, by omega, by rw [e]; exact h⟩, e]
  · rw [if_neg e]
    by_cases e2 : n ≤ k ∧ k < m ∧ G k = true
    · rw [if_pos e2, if_pos ⟨e2.1, by omega, e2.2.2⟩]
    · rw [if_neg e2, if_neg (fun h3 => e2 ⟨h3.1, by omega, h3.2.2⟩)]
theorem Fj_skip {G : Nat → Bool} {n p m : Nat} {M : Nat → Nat → Int} (h : G m = false) : Fj G n p M m = Fj G n p M (m + 1) := by
  funext k t
  unfold Fj
  by_cases e2 : n ≤ k ∧ k < m ∧ G k = true
  · rw [if_pos e2, if_pos ⟨e2.1, by omega, e2.2.2⟩]
  · rw [if_neg e2, if_neg]
    rintro ⟨h1, h2, h3⟩
    by_cases e : k = m
    · rw [e, h] at h3; cases h3
    · exact e2 ⟨h1, by omega, h3⟩
theorem Fj_done {G : Nat → Bool} {n p N q t : Nat} {M : Nat → Nat → Int} (hq : q < N) : Fj G n p M N q t = rbF G n p M q t := by
  unfold Fj rbF
  by_cases e : n ≤ q ∧ G q = true
  · rw [if_pos e, if_pos ⟨e.1, hq, e.2⟩]
  · rw [if_neg e, if_neg (fun h => e ⟨h.1, h.2.2⟩)]
theorem RO.addC {w0 w : World} {o M N n p sz hi m c3 B : Nat} {G : Nat → Bool} {V : Nat → Value} {Ad : Nat → Option Addr} {Gr Cp : Nat → Nat} {MM : Nat → Nat → Int} {A3 : Option Addr} (h : RO w0 o M N 0 sz hi (Gz G m) V Ad Gr Cp (Fj G n p MM m) w) (hm : m < N) (hnm : n ≤ m) (hG : G m = true)
    (hcp : CopyP sz (fun t => enN (m - n) (fun i t => (rbD G n p MM i t : Nat)) n t) B A3 c3 w) (hB : hi ≤ B) (hw : w0.heap.size ≤ hi) (hhi : hi ≤ w.heap.size) :
    ∃ V' Ad' Gr' Cp', RO w0 o M N 0 sz (w.setCell ⟨o, m, none⟩ (.slice A3 sz c3)).heap.size (Gz G (m + 1)) V' Ad' Gr' Cp' (Fj G n p MM (m + 1)) (w.setCell ⟨o, m, none⟩ (.slice A3 sz c3)) := by
  obtain ⟨g, hgg⟩ : ∃ g, 0 < sz → A3 = some ⟨g, 0, none⟩ ∧ RowK 5 .u8 w g sz (fun t => enN (m - n) (fun i t => (rbD G n p MM i t : Nat)) n t) ∧ hi ≤ g := by
    by_cases h0 : 0 < sz
    · obtain ⟨g, h1, h2, h3⟩ := hcp.2 h0
      exact ⟨g, fun _ => ⟨h1, h2, by omega⟩⟩
    · exact ⟨0, fun h => absurd h h0⟩
  have := h.addK (j := m) hm (Nat.zero_le _) hgg hcp.1 (fun t => enN_lt _ _ _ _) hw hhi (by rw [Gz_at]; exact hG)
  rw [Gz_next, Fj_more hnm hG] at this
  exact ⟨_, _, _, _, this⟩
theorem rdM_fresh {k : IntKind} {w w' : World} {A : Option Addr} {n O : Nat} {R : Nat → Option Addr} {L C : Nat → Nat} {M : Nat → Nat → Int} (h : RdM k w A n R L C M) (hg : w.grownBy w' (some O)) (hA : ∀ q, A = some q → O < q.block) (hR : ∀ i q, i < n → R i = some q → O < q.block) : RdM k w' A n R L C M := by
  have hcell : ∀ b i, b < w.heap.size → b ≠ O → w'.cell? ⟨b, i, none⟩ = w.cell? ⟨b, i, none⟩ := fun b i hb hne => by
    have := hg.block b hb (fun e => hne (Option.some.inj e))
    unfold World.cell?
    simp only [this]
  refine ⟨h.1, fun h0 => ?_, fun i hi => ⟨?_, (h.2.2 i hi).2⟩⟩
  · obtain ⟨b, off, he, hb, hc⟩ := h.2.1 h0
    have hO := hA _ he
    exact ⟨b, off, he, Nat.lt_of_lt_of_le hb hg.size, fun i hi => (hcell b _ hb (by simp at hO; omega)).trans (hc i hi)⟩
  · obtain ⟨h1, h2⟩ := (h.2.2 i hi).1
    refine ⟨h1, fun h0 => ?_⟩
    obtain ⟨b, off, he, hb, hc⟩ := h2 h0
    have hO := hR i _ hi he
    exact ⟨b, off, he, Nat.lt_of_lt_of_le hb hg.size, fun t ht => (hcell b _ hb (by simp at hO; omega)).trans (hc t ht)⟩
theorem par_again {wa w : World} {o k n j sz hi : Nat} {G : Nat → Bool} {M : Nat → Nat → Int} {V : Nat → Value} {Ad : Nat → Option Addr} {Gr Cp : Nat → Nat} (h : RO wa o k k 0 sz hi (Gz G n) V Ad Gr Cp (Fj G n j M n) w) (hnk : k = n + j) (n1 : 1 ≤ n) (n12 : n ≤ 12) (p1 : 1 ≤ j) (p3 : j ≤ 3) (hs : sz ≤ 4096) :
    Calls Try.prog 11 #[.slice (some ⟨o, 0, none⟩) n k, .int .i64 j] w fun e w' => ∃ B R1 C1, e = .returned (.tuple #[.slice B j j, .int .i64 0]) ∧ RdM .u8 w' B j R1 (fun _ => sz) C1 (fun i t => (enN i (fun q t => (rbD G n j M q t : Nat)) n t : Nat)) ∧
      (∀ q, B = some q → w.heap.size ≤ q.block) ∧ (∀ i q, i < j → R1 i = some q → w.heap.size ≤ q.block) ∧ New w w' := by
  rw [Fj_begin] at h
  have hg : ∀ q, q < n → Gz G n q = false := fun q hq => by unfold Gz; rw [if_pos hq]
  have hM : RdM .u8 w (some ⟨o, 0, none⟩) n Ad (fun _ => sz) Cp (fun q t => (rbD G n j M q t : Nat)) :=
    ⟨by unfold maxLen; omega, fun _ => ⟨o, 0, rfl, h.out.lt, fun q hq => by rw [Nat.zero_add, h.out.cell (by omega), (h.val q (by omega) (.inr (hg q hq))).1]⟩,
      fun q hq => ⟨h.rdI hs (by omega) (.inr (hg q hq)), (h.val q (by omega) (.inr (hg q hq))).2⟩⟩
  have hmay : mayC n (fun _ => sz) = true := by
    unfold mayC
    rw [decide_eq_true ⟨n1, n12⟩, evB_true fun i _ => ⟨rfl, hs⟩]
    rfl
  have hpc : peCode n (fun _ => sz) (j : Int) = 0 := by
    unfold peCode
    rw [if_pos hmay, if_pos (by omega)]
  have hpl : peLen n (fun _ => sz) (j : Int) = j := by
    unfold peLen
    rw [if_pos hpc]
    simp
  have hc := ParEncode_new (some ⟨o, 0, none⟩) n k (j : Int) Ad (fun _ => sz) Cp _ w hM (fun i _ t _ => by have := rbD_lt G n j M i t; omega)
  rw [hpc, hpl] at hc
  refine hc.mono ?_
  rintro e w' ⟨v, rfl, ⟨B, d, R1, C1, rfl, rfl, h1, h2, h3⟩, h4⟩
  exact ⟨B, R1, C1, rfl, h3, h1, h2, h4⟩
end Go.Proofs.Ytjmjnodaohbpfaa.par
