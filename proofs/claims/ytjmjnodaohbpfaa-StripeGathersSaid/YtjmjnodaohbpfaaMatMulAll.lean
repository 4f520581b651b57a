import Derived.Test.YtjmjnodaohbpfaaProg
import Derived.Test.YtjmjnodaohbpfaaRows2
import Derived.Test.YtjmjnodaohbpfaaGf
import Derived.Test.YtjmjnodaohbpfaaMatRefMay
import Derived.Deep.OwnRows
import Derived.Deep.AppendLies
import Derived.OwnWalk
import Derived.Test.YtjmjnodaohbpfaaQuietTail
/-
  Arguments of the types [][]int, []int.
-/
namespace Go.Proofs.Ytjmjnodaohbpfaa.mat
open Go.ChangeShapes Go.WideShapes Go.ChangeAt Go.RowKit Go.Proofs.Ytjmjnodaohbpfaa.kit Go.Joins Go.Deep
set_option maxRecDepth 100000 in
theorem open_mat {H : Type} {enc : TypeId × Value → H} {W : World} {base : Nat} {v : Value} {d : DataW H} {p : List MemPlace} (ok : Value.okWide Try.prog W .any base 53 v)
    (h : DataW.Trod enc Try.prog W 0 (fun _ => true) true 53 v d p) :
    ∃ (A : Option Addr) (n c : Nat) (R : Nat → Option Addr) (L C : Nat → Nat) (M : Nat → Nat → Int), v = .slice A n c ∧ RdM .i64 W A n R L C M ∧ n ≤ c ∧ c ≤ maxLen ∧ ∀ i, i < n → ∀ j, j < L i → -9223372036854775808 ≤ M i j ∧ M i j ≤ 9223372036854775807 := by
  obtain ⟨A, n, c, rfl⟩ := okWide_slice Try.underlying53 ok
  obtain ⟨fuel, hf⟩ := h
  obtain ⟨A, n, c, R, L, C, M, hv, h1, h2, h3, h4⟩ := open_matI Try.underlying53 (by kernel_rfl) Try.underlying29 Try.underlying3 (by kernel_rfl) hf
  exact ⟨A, n, c, R, L, C, M, hv, h1, h2, h3, fun i hi j hj => bounds_i64 (h4 i hi j hj)⟩
set_option maxRecDepth 100000 in
theorem open_ints {H : Type} {enc : TypeId × Value → H} {W : World} {base : Nat} {v : Value} {d : DataW H} {p : List MemPlace} (ok : Value.okWide Try.prog W .any base 29 v)
    (h : DataW.Trod enc Try.prog W 0 (fun _ => true) true 29 v d p) :
    ∃ (A : Option Addr) (n c : Nat) (Z : Nat → Int), v = .slice A n c ∧ RdI .i64 W A n Z ∧ n ≤ c ∧ c ≤ maxLen ∧ ∀ i, i < n → -9223372036854775808 ≤ Z i ∧ Z i ≤ 9223372036854775807 := by
  obtain ⟨A, n, c, rfl⟩ := okWide_slice Try.underlying29 ok
  obtain ⟨fuel, hf⟩ := h
  obtain ⟨A, n, c, Z, hv, h1, h2, h3, h4, _⟩ := open_rowI Try.underlying29 Try.underlying3 (by kernel_rfl) hf
  exact ⟨A, n, c, Z, hv, h1, h2, h3, fun i hi => bounds_i64 (h4 i hi)⟩
end Go.Proofs.Ytjmjnodaohbpfaa.mat

/-
  Contracts: products of elements, and sums of such.
-/
namespace Go.Proofs.Ytjmjnodaohbpfaa.mat
open Go.ChangeShapes Go.WideShapes Go.ChangeAt Go.RowKit Go.Proofs.Ytjmjnodaohbpfaa.kit Go.Proofs.Ytjmjnodaohbpfaa.gf
set_option linter.unusedVariables false

/-- a function with a body is entered by its call -/
theorem enter_of {P : Program} {f : FuncId} {fn : Func} {c : Code} (hf : P.funcs[f]? = some fn) (hname : (fn.name == "runtime.NumGoroutine") = false) (hb : fn.body = some c) :
    ∀ (args : Array Value) (w : World), (callFunc f args).run P w = .ok (.enter f args) w := by
  intro args w
  have h1 : fn.name ≠ "runtime.NumGoroutine" := by simpa using hname
  simp [callFunc, hf, h1, hb]
def dotN (f g : Nat → Nat) : Nat → Nat
  | 0 => 0
  | k + 1 => dotN f g k ^^^ mul (f k) (g k)
theorem dotN_lt (f g : Nat → Nat) : ∀ n, (∀ i, i < n → f i < 256) → dotN f g n < 256
  | 0, _ => (by decide : 0 < 256)
  | k + 1, h => xor_lt8 (dotN_lt f g k fun i hi => h i (by omega)) (mul_lt _ _ (h k (by omega)))
theorem isB_of {a : Nat} (ha : a < 256) : isB (a : Int) := by unfold isB; omega
theorem times_ok (a b : Nat) (ha : a < 256) (hb : b < 256) (w : World) :
    Calls Try.prog 82 #[.int .i64 a, .int .i64 b] w fun e w' => e = .returned (.int .i64 (mul a b : Nat)) ∧ New w w' := by
  go_enter Try.func82, Try.ntmps82
  go_wp2_with fail
  refine (Mul_any a b _ (by omega) (by omega) (by omega) (by omega)).mono ?_
  have hv : mulV a b = (mul a b : Nat) := by unfold mulV; rw [if_pos ⟨isB_of ha, isB_of hb⟩]; simp
  have he : mulE a b = 0 := by unfold mulE; rw [if_pos ⟨isB_of ha, isB_of hb⟩]
  rw [hv, he]
  clear hv he
  rintro e w1 ⟨rfl, hn1⟩
  go_wp2
  go_ret
  exact ⟨rfl, hn1⟩
end Go.Proofs.Ytjmjnodaohbpfaa.mat

/-
  Contracts: a matrix is applied to a list.
-/
namespace Go.Proofs.Ytjmjnodaohbpfaa.mat
open Go.ChangeShapes Go.WideShapes Go.ChangeAt Go.RowKit Go.Proofs.Ytjmjnodaohbpfaa.kit Go.Proofs.Ytjmjnodaohbpfaa.gf Go.Deep
set_option linter.unusedVariables false

theorem infoInt : (Try.prog.info? 3).map (fun i => (i.zero, i.size, i.bytes)) = some (some (.int .i64 0), 1, 8) := by kernel_rfl
def rowL (f : Nat → Nat) (k : Nat) : List Value := (List.range k).map fun j => .int .i64 (f j : Nat)
theorem rowL_succ (f : Nat → Nat) (k : Nat) : rowL f (k + 1) = rowL f k ++ [.int .i64 (f k : Nat)] := by unfold rowL; rw [List.range_succ]; simp
theorem rowL_len (f : Nat → Nat) (k : Nat) : (rowL f k).length = k := by simp [rowL]
/-- an owned row of numbers, read -/
theorem own_rdI {w : World} {base : Nat} {e : TypeId} {size : Nat} {v : Value} {n : Nat} {f : Nat → Nat} (h : w.ownsRow base e size v n (rowL f n)) :
    ∃ A c, v = .slice A n c ∧ n ≤ c ∧ RdI .i64 w A n (fun i => (f i : Nat)) := by
  obtain ⟨A, c, rfl, h1, h2, h3, h4⟩ := own_open h
  refine ⟨A, c, rfl, h1, by omega, fun h0 => ?_⟩
  obtain ⟨g, rfl, _, hg⟩ := h3 h0
  refine ⟨g, 0, rfl, hg, fun i hi => ?_⟩
  have := h4 g rfl i (.int .i64 (f i : Nat)) (by simp [rowL, hi])
  simpa using this
theorem nil_rdI (w : World) (Z : Nat → Int) : RdI .i64 w none 0 Z := ⟨Nat.zero_le _, fun h => absurd h (Nat.lt_irrefl 0)⟩
theorem sameInts_eq (A B : Option Addr) (n c d : Nat) (Y Z : Nat → Int) (w : World) (hY : RdI .i64 w A n Y) (hZ : RdI .i64 w B n Z) (he : ∀ i, i < n → Y i = Z i) :
    Calls Try.prog 21 #[.slice A n c, .slice B n d] w fun e w' => e = .returned (.bool true) ∧ New w w' := by
  have hm := hY.1
  unfold maxLen at hm
  have he1 := Lib.hid he
  clear he
  go_enter Try.func21, Try.ntmps21
  go_wp2
  go_loopw [5] (fun k wr => ∃ i : Nat, k = .int .i64 i ∧ i ≤ n ∧ New w wr) (fun k _ => n - (intOf k).toNat)
  case atStart => exact ⟨0, rfl, by omega, New.refl w⟩
  case round =>
    obtain ⟨i, rfl, hi, hnw⟩ := hrel
    by_cases hlt : i < n
    · obtain ⟨b, off, rfl, hb, hcs⟩ := hY.2 (by omega)
      obtain ⟨b', off', rfl, hb', hcs'⟩ := hZ.2 (by omega)
      have c0 := (hnw.cell hb).trans (hcs i hlt)
      have c1 := (hnw.cell hb').trans (hcs' i hlt)
      have he := he1.out i hlt
      clear hcs hcs'
      go_wp2
      go_quiet (fail)
      go_wp2
      go_roundw
      case rel => exact ⟨i + 1, by go_num, by omega, hnw.drewN _⟩
      case measure => simp [intOf]; omega
    · have hin : i = n := by omega
      subst hin
      go_wp2
      go_ret
      exact ⟨rfl, hnw⟩
def elN (M : Nat → Nat → Int) (i k : Nat) : Nat := (M i k).toNat
def numN (Y : Nat → Int) (k : Nat) : Nat := (Y k).toNat
def apCode (n : Nat) (L : Nat → Nat) (M : Nat → Nat → Int) (nv : Nat) (Y : Nat → Int) : Int := if mayM n L M = true ∧ allE nv Y = true then (if L 0 = nv then 0 else 1) else 4
def apLen (n : Nat) (L : Nat → Nat) (M : Nat → Nat → Int) (nv : Nat) (Y : Nat → Int) : Nat := if apCode n L M nv Y = 0 then n else 0
def apVal (M : Nat → Nat → Int) (nv : Nat) (Y : Nat → Int) (i : Nat) : Nat := dotN (elN M i) (numN Y) nv
theorem apVal_lt (M : Nat → Nat → Int) (nv : Nat) (Y : Nat → Int) (i : Nat) (h : ∀ k, k < nv → elP (M i k)) : apVal M nv Y i < 256 :=
  dotN_lt _ _ _ fun k hk => by have := h k hk; unfold elP at this; unfold elN; omega

end Go.Proofs.Ytjmjnodaohbpfaa.mat

/-
  Contract of the reference: a matrix is applied to a list.
-/
namespace Go.Proofs.Ytjmjnodaohbpfaa.mat
open Go.ChangeShapes Go.WideShapes Go.ChangeAt Go.RowKit Go.Proofs.Ytjmjnodaohbpfaa.kit Go.Proofs.Ytjmjnodaohbpfaa.gf Go.Deep
set_option linter.unusedVariables false

/-- what lies in a row of sums while they are reckoned -/
def stF (a : Nat → Nat) (s i : Nat) : Nat → Value := fun j => .int .i64 ((if j < i then a j else if j = i then s else 0 : Nat) : Int)
theorem stF_at (a : Nat → Nat) (s i : Nat) : stF a s i i = .int .i64 (s : Int) := by simp [stF]
theorem stF_set (a : Nat → Nat) (s s' i : Nat) : (fun j => if j = i then Value.int .i64 (s' : Int) else stF a s i j) = stF a s' i := by
  funext j
  unfold stF
  by_cases h : j = i
  · simp [h]
  · simp [h]
theorem stF_next (a : Nat → Nat) (i : Nat) : stF a (a i) i = stF a 0 (i + 1) := by
  funext j
  unfold stF
  congr 2
  by_cases h1 : j < i
  · simp [h1, Nat.lt_succ_of_lt h1]
  · by_cases h2 : j = i
    · subst h2; simp
    · have h3 : ¬ j < i + 1 := by omega
      simp [h1, h2, h3]
end Go.Proofs.Ytjmjnodaohbpfaa.mat

/-
  Contracts: the product of matrices.
-/
namespace Go.Proofs.Ytjmjnodaohbpfaa.mat
open Go.ChangeShapes Go.WideShapes Go.ChangeAt Go.RowKit Go.Proofs.Ytjmjnodaohbpfaa.kit Go.Proofs.Ytjmjnodaohbpfaa.gf Go.Deep
set_option linter.unusedVariables false

theorem info30 : (Try.prog.info? 29).map (fun i => (i.zero, i.size, i.bytes)) = some (some (.slice none 0 0), 1, 24) := by kernel_rfl
theorem nil_rdM (w : World) (R : Nat → Option Addr) (L C : Nat → Nat) (M : Nat → Nat → Int) : RdM .i64 w none 0 R L C M := ⟨Nat.zero_le _, fun h => absurd h (Nat.lt_irrefl 0), fun i h => absurd h (Nat.not_lt_zero i)⟩
def mmVal (X Y : Nat → Nat → Int) (nb i k : Nat) : Nat := dotN (elN X i) (fun q => elN Y q k) nb
def mmCode (n : Nat) (L : Nat → Nat) (X : Nat → Nat → Int) (nb : Nat) (L' : Nat → Nat) (Y : Nat → Nat → Int) : Int := if mayM n L X = true ∧ mayM nb L' Y = true then (if L 0 = nb then 0 else 1) else 4
def mmLen (n : Nat) (L : Nat → Nat) (X : Nat → Nat → Int) (nb : Nat) (L' : Nat → Nat) (Y : Nat → Nat → Int) : Nat := if mmCode n L X nb L' Y = 0 then n else 0
def rowsL (G : Nat → Nat) (m k : Nat) : List Value := (List.range k).map fun i => .slice (some ⟨G i, 0, none⟩) m m
theorem rowsL_succ (G : Nat → Nat) (m k g : Nat) : rowsL (fun i => if i = k then g else G i) m (k + 1) = rowsL G m k ++ [.slice (some ⟨g, 0, none⟩) m m] := by
  unfold rowsL
  rw [List.range_succ, List.map_append]
  congr 1
  · apply List.map_congr_left
    intro i hi
    have : i ≠ k := by have := List.mem_range.1 hi; omega
    simp [this]
  · simp
/-- a row of one element type is no row of another -/
theorem row_ne_own {w : World} {base : Nat} {e t : TypeId} {size : Nat} {v : Value} {n b m : Nat} {xs : List Value} {f : Nat → Value} (h : w.ownsRow base e size v n xs) (hr : w.rowIs b t m f) (hne : e ≠ t) : v.ownBlock ≠ some b := by
  intro he
  rcases h.2 with ⟨rfl, _⟩ | ⟨g, cap, cur, rfl, _, hg, _⟩
  · cases he
  · have hgb : g = b := by simpa [Value.ownBlock] using he
    subst hgb
    obtain ⟨c, hc, _⟩ := hr
    rw [hg] at hc
    injection hc with hc
    injection hc with _ hc _
    exact hne hc
/-- own rows behind an own row of slices, read -/
theorem own_rdM {w : World} {base : Nat} {size : Nat} {v : Value} {n m : Nat} {G : Nat → Nat} {e t : TypeId} {f : Nat → Nat → Nat} (h : w.ownsRow base e size v n (rowsL G m n)) (hr : ∀ i, i < n → w.rowIs (G i) t m (fun j => .int .i64 (f i j : Nat))) (hm : m ≤ maxLen) :
    ∃ A c, v = .slice A n c ∧ RdM .i64 w A n (fun i => some ⟨G i, 0, none⟩) (fun _ => m) (fun _ => m) (fun i j => (f i j : Nat)) := by
  obtain ⟨A, c, rfl, h1, h2, h3, h4⟩ := own_open h
  refine ⟨A, c, rfl, by omega, fun h0 => ?_, fun i hi => ⟨⟨hm, fun h0 => ⟨G i, 0, rfl, (hr i hi).lt, fun j hj => ?_⟩⟩, Nat.le_refl _, hm⟩⟩
  · obtain ⟨g, rfl, _, hg⟩ := h3 h0
    refine ⟨g, 0, rfl, hg, fun i hi => ?_⟩
    have := h4 g rfl i (.slice (some ⟨G i, 0, none⟩) m m) (by simp [rowsL, hi])
    simpa using this
  · simpa using (hr i hi).cell hj
theorem rowIs_new {w w' : World} {b : Nat} {t : TypeId} {n : Nat} {f : Nat → Value} (h : w.rowIs b t n f) (hn : New w w') : w'.rowIs b t n f := h.of_block (hn.block _ h.lt)
theorem rowIs_grown {w w' : World} {b : Nat} {t : TypeId} {n : Nat} {f : Nat → Value} {row : Option Nat} (h : w.rowIs b t n f) (hg : w.grownBy w' row) (hr : row ≠ some b) : w'.rowIs b t n f := h.of_block (hg.block _ h.lt (Ne.symm hr))

end Go.Proofs.Ytjmjnodaohbpfaa.mat

/-
  Contract of the reference: the product of matrices.
-/
namespace Go.Proofs.Ytjmjnodaohbpfaa.mat
open Go.ChangeShapes Go.WideShapes Go.ChangeAt Go.RowKit Go.Proofs.Ytjmjnodaohbpfaa.kit Go.Proofs.Ytjmjnodaohbpfaa.gf Go.Deep
set_option linter.unusedVariables false

theorem rowIs_ne {w : World} {a b : Nat} {t t' : TypeId} {n m : Nat} {f g : Nat → Value} (h : w.rowIs a t n f) (k : w.rowIs b t' m g) (hne : t ≠ t') : a ≠ b := by
  intro he
  subst he
  obtain ⟨c, hc, _⟩ := h
  obtain ⟨d, hd, _⟩ := k
  rw [hc] at hd
  injection hd with hd
  injection hd with _ hd _
  exact hne hd
/-- the rows that are laid: of the first i -/
def topF (G : Nat → Nat) (m i : Nat) : Nat → Value := fun j => if j < i then .slice (some ⟨G j, 0, none⟩) m m else .slice none 0 0
theorem topF_set (G : Nat → Nat) (m i g : Nat) : (fun j => if j = i then Value.slice (some ⟨g, 0, none⟩) m m else topF G m i j) = topF (fun j => if j = i then g else G j) m (i + 1) := by
  funext j
  unfold topF
  by_cases h : j = i
  · subst h; simp
  · by_cases h2 : j < i
    · have : j < i + 1 := by omega
      simp [h, h2, this]
    · have : ¬ j < i + 1 := by omega
      simp [h, h2, this]
/-- what the rounds of a row leave as it is -/
def keepT (w wr : World) (t1 t2 : TypeId) (n m i k : Nat) (G : Nat → Nat) (f : Nat → Nat → Value) : Prop :=
  New w wr ∧ wr.rowIs w.heap.size t1 n (topF G m i) ∧ ∀ j, j < k → wr.rowIs (G j) t2 m (f j)
theorem keepT.new {w wr wr' : World} {t1 t2 : TypeId} {n m i k : Nat} {G : Nat → Nat} {f : Nat → Nat → Value} (h : keepT w wr t1 t2 n m i k G f) (hn : New wr wr') : keepT w wr' t1 t2 n m i k G f :=
  ⟨h.1.next hn, rowIs_new h.2.1 hn, fun j hj => rowIs_new (h.2.2 j hj) hn⟩
theorem keepT.set {w wr : World} {t1 t2 : TypeId} {n m i k : Nat} {G : Nat → Nat} {f : Nat → Nat → Value} (h : keepT w wr t1 t2 n m i k G f) {a : Addr} (ha : w.heap.size < a.block) (hG : ∀ j, j < k → G j ≠ a.block) (v : Value) : keepT w (wr.setCell a v) t1 t2 n m i k G f :=
  ⟨h.1.set (Nat.le_of_lt ha) _, h.2.1.setOther (Nat.ne_of_lt ha) _, fun j hj => (h.2.2 j hj).setOther (hG j hj) _⟩
/-- a row of sums while column by column is added -/
def colF (s : Nat → Nat → Nat) (k j : Nat) : Nat → Value := fun q => .int .i64 ((if q < j then s (k + 1) q else s k q : Nat) : Int)
theorem colF_at (s : Nat → Nat → Nat) (k j : Nat) : colF s k j j = .int .i64 (s k j : Nat) := by simp [colF]
theorem colF_set (s : Nat → Nat → Nat) (k j : Nat) : (fun q => if q = j then Value.int .i64 (s (k + 1) j : Nat) else colF s k j q) = colF s k (j + 1) := by
  funext q
  unfold colF
  by_cases h : q = j
  · subst h; simp
  · by_cases h2 : q < j
    · have : q < j + 1 := by omega
      simp [h, h2, this]
    · have : ¬ q < j + 1 := by omega
      simp [h, h2, this]
end Go.Proofs.Ytjmjnodaohbpfaa.mat
