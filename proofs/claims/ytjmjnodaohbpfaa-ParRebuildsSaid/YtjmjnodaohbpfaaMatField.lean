/-
  Plain laws: determinants over the field of 256 elements, of at most four rows: Cramer's rule; what steps on rows do.
-/
import Derived.Test.YtjmjnodaohbpfaaGfPlain
namespace Go.Proofs.Ytjmjnodaohbpfaa.fld
open Go.Proofs.Ytjmjnodaohbpfaa.gf
set_option linter.unusedVariables false
set_option linter.unusedSimpArgs false

/-- an element -/
def F : Type := { n : Nat // n < 256 }
theorem F.ext {a b : F} (h : a.1 = b.1) : a = b := Subtype.ext h
instance : Zero F := ⟨⟨0, by omega⟩⟩
instance : One F := ⟨⟨1, by omega⟩⟩
instance : Add F := ⟨fun a b => ⟨a.1 ^^^ b.1, xor_lt8 a.2 b.2⟩⟩
instance : Mul F := ⟨fun a b => ⟨mul a.1 b.1, mul_lt _ _ a.2⟩⟩
theorem val_add (a b : F) : (a + b).1 = a.1 ^^^ b.1 := rfl
theorem val_mul (a b : F) : (a * b).1 = mul a.1 b.1 := rfl
theorem val_zero : (0 : F).1 = 0 := rfl
theorem val_one : (1 : F).1 = 1 := rfl
theorem add_assoc (a b c : F) : a + b + c = a + (b + c) := F.ext (Nat.xor_assoc _ _ _)
theorem add_comm (a b : F) : a + b = b + a := F.ext (Nat.xor_comm _ _)
theorem add_self (a : F) : a + a = 0 := F.ext (Nat.xor_self _)
theorem add_zero (a : F) : a + 0 = a := F.ext (Nat.xor_zero _)
theorem zero_add (a : F) : 0 + a = a := F.ext (Nat.zero_xor _)
theorem mul_assoc' (a b c : F) : a * b * c = a * (b * c) := F.ext (gf.mul_assoc _ _ _ a.2 b.2 c.2)
theorem mul_comm' (a b : F) : a * b = b * a := F.ext (gf.mul_comm _ _ a.2 b.2)
theorem mul_add (a b c : F) : a * (b + c) = a * b + a * c := F.ext (mul_xor _ _ _)
theorem add_mul (a b c : F) : (a + b) * c = a * c + b * c := F.ext (xor_mul _ _ _ a.2 b.2)
theorem mul_zero (a : F) : a * 0 = 0 := by rw [mul_comm']; exact F.ext (zero_mul _)
theorem zero_mul' (a : F) : 0 * a = 0 := F.ext (zero_mul _)
theorem mul_one' (a : F) : a * 1 = a := F.ext (gf.mul_one _)
theorem one_mul' (a : F) : 1 * a = a := by rw [mul_comm']; exact mul_one' a
theorem add_left (a b c : F) : a + (b + c) = b + (a + c) := by rw [← add_assoc, add_comm a b, add_assoc]
theorem mul_left (a b c : F) : a * (b * c) = b * (a * c) := by rw [← mul_assoc', mul_comm' a b, mul_assoc']
theorem add_can (a b : F) : a + (a + b) = b := by rw [← add_assoc, add_self, zero_add]
theorem add_eq_zero {a b : F} (h : a + b = 0) : a = b := by
  have : a + (a + b) = a + 0 := by rw [h]
  rw [add_can, add_zero] at this
  exact this.symm
theorem mul_ne_zero {a b : F} (ha : a ≠ 0) (hb : b ≠ 0) : a * b ≠ 0 := fun h => mul_ne a.1 b.1 a.2 b.2 (fun e => ha (F.ext e)) (fun e => hb (F.ext e)) (congrArg Subtype.val h)

def sm : Nat → (Nat → F) → F
  | 0, _ => 0
  | n + 1, f => sm n f + f n
theorem sm_congr : ∀ {n : Nat} {f g : Nat → F}, (∀ i, i < n → f i = g i) → sm n f = sm n g
  | 0, _, _, _ => rfl
  | n + 1, f, g, h => by
    show sm n f + f n = sm n g + g n
    rw [sm_congr fun i hi => h i (by omega), h n (by omega)]
theorem sm_add : ∀ (n : Nat) (f g : Nat → F), sm n (fun i => f i + g i) = sm n f + sm n g
  | 0, _, _ => (add_zero 0).symm
  | n + 1, f, g => by
    show sm n _ + (f n + g n) = (sm n f + f n) + (sm n g + g n)
    rw [sm_add n f g, add_assoc, add_assoc, add_left (sm n g)]
theorem sm_mul : ∀ (n : Nat) (s : F) (f : Nat → F), sm n (fun i => s * f i) = s * sm n f
  | 0, s, _ => (mul_zero s).symm
  | n + 1, s, f => by
    show sm n _ + s * f n = s * (sm n f + f n)
    rw [sm_mul n s f, mul_add]
theorem sm_zero : ∀ (n : Nat), sm n (fun _ => 0) = 0
  | 0 => rfl
  | n + 1 => by show sm n _ + 0 = 0; rw [sm_zero n, add_zero]

/-- without row i and the first column -/
def mnr (i : Nat) (M : Nat → Nat → F) : Nat → Nat → F := fun r c => M (if r < i then r else r + 1) (c + 1)
def det : Nat → (Nat → Nat → F) → F
  | 0, _ => 1
  | n + 1, M => sm (n + 1) fun i => M i 0 * det n (mnr i M)
theorem det_congr : ∀ {n : Nat} {M N : Nat → Nat → F}, (∀ r c, r < n → c < n → M r c = N r c) → det n M = det n N
  | 0, _, _, _ => rfl
  | n + 1, M, N, h => by
    unfold det
    refine sm_congr fun i hi => ?_
    rw [h i 0 hi (by omega), det_congr (M := mnr i M) (N := mnr i N) fun r c hr hc => ?_]
    unfold mnr
    split
    · exact h _ _ (by omega) (by omega)
    · exact h _ _ (by omega) (by omega)
/-- a column is another one -/
def stc (M : Nat → Nat → F) (c : Nat) (u : Nat → F) : Nat → Nat → F := fun r k => if k = c then u r else M r k
theorem mnr_stc0 (i : Nat) (M : Nat → Nat → F) (u : Nat → F) : mnr i (stc M 0 u) = mnr i M := by
  funext r c
  unfold mnr stc
  rw [if_neg (by omega)]
theorem mnr_stc (i c : Nat) (M : Nat → Nat → F) (u : Nat → F) : mnr i (stc M (c + 1) u) = stc (mnr i M) c (fun r => u (if r < i then r else r + 1)) := by
  funext r k
  unfold mnr stc
  by_cases h : k = c
  · rw [if_pos h, if_pos (by omega)]
  · rw [if_neg h, if_neg (by omega)]
theorem det_col_add : ∀ (n c : Nat) (M : Nat → Nat → F) (u v : Nat → F), c < n → det n (stc M c fun r => u r + v r) = det n (stc M c u) + det n (stc M c v)
  | 0, _, _, _, _, h => absurd h (Nat.not_lt_zero _)
  | n + 1, 0, M, u, v, _ => by
    unfold det
    rw [← sm_add]
    refine sm_congr fun i _ => ?_
    rw [mnr_stc0, mnr_stc0, mnr_stc0]
    show (u i + v i) * _ = u i * _ + v i * _
    rw [add_mul]
  | n + 1, c + 1, M, u, v, h => by
    unfold det
    rw [← sm_add]
    refine sm_congr fun i _ => ?_
    rw [mnr_stc, mnr_stc, mnr_stc, det_col_add n c (mnr i M) _ _ (by omega), mul_add]
    rfl
theorem det_col_mul : ∀ (n c : Nat) (M : Nat → Nat → F) (s : F) (u : Nat → F), c < n → det n (stc M c fun r => s * u r) = s * det n (stc M c u)
  | 0, _, _, _, _, h => absurd h (Nat.not_lt_zero _)
  | n + 1, 0, M, s, u, _ => by
    unfold det
    rw [← sm_mul]
    refine sm_congr fun i _ => ?_
    rw [mnr_stc0, mnr_stc0]
    show s * u i * _ = s * (u i * _)
    rw [mul_assoc']
  | n + 1, c + 1, M, s, u, h => by
    unfold det
    rw [← sm_mul]
    refine sm_congr fun i _ => ?_
    rw [mnr_stc, mnr_stc, det_col_mul n c (mnr i M) _ _ (by omega), mul_left]
    rfl
theorem det_col_zero (n c : Nat) (M : Nat → Nat → F) (h : c < n) : det n (stc M c fun _ => 0) = 0 := by
  have := det_col_mul n c M 0 (fun _ => 0) h
  rw [zero_mul'] at this
  rw [this, zero_mul']
theorem det_col_sum (n c : Nat) (M : Nat → Nat → F) (h : c < n) (x : Nat → F) (U : Nat → Nat → F) : ∀ m, det n (stc M c fun r => sm m fun j => x j * U r j) = sm m fun j => x j * det n (stc M c fun r => U r j)
  | 0 => det_col_zero n c M h
  | m + 1 => by
    show det n (stc M c fun r => (sm m fun j => x j * U r j) + x m * U r m) = _ + _
    rw [det_col_add n c M _ _ h, det_col_sum n c M h x U m, det_col_mul n c M _ _ h]
theorem det_col_self (n c : Nat) (M : Nat → Nat → F) : det n (stc M c fun r => M r c) = det n M := by
  congr 1
  funext r k
  unfold stc
  by_cases h : k = c
  · rw [if_pos h, h]
  · rw [if_neg h]

/-! ### of at most four rows -/
theorem det1 (M : Nat → Nat → F) : det 1 M = M 0 0 := by
  show 0 + M 0 0 * 1 = _
  rw [zero_add, mul_one']
theorem det2 (M : Nat → Nat → F) : det 2 M = M 0 0 * M 1 1 + M 1 0 * M 0 1 := by
  show (0 + M 0 0 * det 1 (mnr 0 M)) + M 1 0 * det 1 (mnr 1 M) = _
  rw [zero_add, det1, det1]
  rfl
theorem det3 (M : Nat → Nat → F) : det 3 M = (M 0 0 * (M 1 1 * M 2 2 + M 2 1 * M 1 2) + M 1 0 * (M 0 1 * M 2 2 + M 2 1 * M 0 2)) + M 2 0 * (M 0 1 * M 1 2 + M 1 1 * M 0 2) := by
  show ((0 + M 0 0 * det 2 (mnr 0 M)) + M 1 0 * det 2 (mnr 1 M)) + M 2 0 * det 2 (mnr 2 M) = _
  rw [zero_add, det2, det2, det2]
  rfl
theorem det4 (M : Nat → Nat → F) : det 4 M = (((M 0 0 * ((M 1 1 * (M 2 2 * M 3 3 + M 3 2 * M 2 3) + M 2 1 * (M 1 2 * M 3 3 + M 3 2 * M 1 3)) + M 3 1 * (M 1 2 * M 2 3 + M 2 2 * M 1 3)) + M 1 0 * ((M 0 1 * (M 2 2 * M 3 3 + M 3 2 * M 2 3) + M 2 1 * (M 0 2 * M 3 3 + M 3 2 * M 0 3)) + M 3 1 * (M 0 2 * M 2 3 + M 2 2 * M 0 3))) + M 2 0 * ((M 0 1 * (M 1 2 * M 3 3 + M 3 2 * M 1 3) + M 1 1 * (M 0 2 * M 3 3 + M 3 2 * M 0 3)) + M 3 1 * (M 0 2 * M 1 3 + M 1 2 * M 0 3))) + M 3 0 * ((M 0 1 * (M 1 2 * M 2 3 + M 2 2 * M 1 3) + M 1 1 * (M 0 2 * M 2 3 + M 2 2 * M 0 3)) + M 2 1 * (M 0 2 * M 1 3 + M 1 2 * M 0 3))) := by
  show (((0 + M 0 0 * det 3 (mnr 0 M)) + M 1 0 * det 3 (mnr 1 M)) + M 2 0 * det 3 (mnr 2 M)) + M 3 0 * det 3 (mnr 3 M) = _
  rw [zero_add, det3, det3, det3, det3]
  rfl
theorem samec2_01 (M : Nat → Nat → F) (h0 : M 0 1 = M 0 0) (h1 : M 1 1 = M 1 0) : det 2 M = 0 := by
  rw [det2, h0, h1]
  generalize M 0 0 = a00
  generalize M 1 0 = a10
  simp only [mul_add, add_mul, mul_assoc', mul_comm', mul_left, add_assoc, add_comm, add_left, add_self, add_can, add_zero, zero_add, mul_zero, zero_mul']
theorem samer2_01 (M : Nat → Nat → F) (h0 : M 1 0 = M 0 0) (h1 : M 1 1 = M 0 1) : det 2 M = 0 := by
  rw [det2, h0, h1]
  generalize M 0 0 = a00
  generalize M 0 1 = a01
  simp only [mul_add, add_mul, mul_assoc', mul_comm', mul_left, add_assoc, add_comm, add_left, add_self, add_can, add_zero, zero_add, mul_zero, zero_mul']
theorem samec3_01 (M : Nat → Nat → F) (h0 : M 0 1 = M 0 0) (h1 : M 1 1 = M 1 0) (h2 : M 2 1 = M 2 0) : det 3 M = 0 := by
  rw [det3, h0, h1, h2]
  generalize M 0 0 = a00
  generalize M 0 2 = a02
  generalize M 1 0 = a10
  generalize M 1 2 = a12
  generalize M 2 0 = a20
  generalize M 2 2 = a22
  simp only [mul_add, add_mul, mul_assoc', mul_comm', mul_left, add_assoc, add_comm, add_left, add_self, add_can, add_zero, zero_add, mul_zero, zero_mul']
theorem samer3_01 (M : Nat → Nat → F) (h0 : M 1 0 = M 0 0) (h1 : M 1 1 = M 0 1) (h2 : M 1 2 = M 0 2) : det 3 M = 0 := by
  rw [det3, h0, h1, h2]
  generalize M 0 0 = a00
  generalize M 0 1 = a01
  generalize M 0 2 = a02
  generalize M 2 0 = a20
  generalize M 2 1 = a21
  generalize M 2 2 = a22
  simp only [mul_add, add_mul, mul_assoc', mul_comm', mul_left, add_assoc, add_comm, add_left, add_self, add_can, add_zero, zero_add, mul_zero, zero_mul']
theorem samec3_02 (M : Nat → Nat → F) (h0 : M 0 2 = M 0 0) (h1 : M 1 2 = M 1 0) (h2 : M 2 2 = M 2 0) : det 3 M = 0 := by
  rw [det3, h0, h1, h2]
  generalize M 0 0 = a00
  generalize M 0 1 = a01
  generalize M 1 0 = a10
  generalize M 1 1 = a11
  generalize M 2 0 = a20
  generalize M 2 1 = a21
  simp only [mul_add, add_mul, mul_assoc', mul_comm', mul_left, add_assoc, add_comm, add_left, add_self, add_can, add_zero, zero_add, mul_zero, zero_mul']
theorem samer3_02 (M : Nat → Nat → F) (h0 : M 2 0 = M 0 0) (h1 : M 2 1 = M 0 1) (h2 : M 2 2 = M 0 2) : det 3 M = 0 := by
  rw [det3, h0, h1, h2]
  generalize M 0 0 = a00
  generalize M 0 1 = a01
  generalize M 0 2 = a02
  generalize M 1 0 = a10
  generalize M 1 1 = a11
  generalize M 1 2 = a12
  simp only [mul_add, add_mul, mul_assoc', mul_comm', mul_left, add_assoc, add_comm, add_left, add_self, add_can, add_zero, zero_add, mul_zero, zero_mul']
theorem samec3_12 (M : Nat → Nat → F) (h0 : M 0 2 = M 0 1) (h1 : M 1 2 = M 1 1) (h2 : M 2 2 = M 2 1) : det 3 M = 0 := by
  rw [det3, h0, h1, h2]
  generalize M 0 0 = a00
  generalize M 0 1 = a01
  generalize M 1 0 = a10
  generalize M 1 1 = a11
  generalize M 2 0 = a20
  generalize M 2 1 = a21
  simp only [mul_add, add_mul, mul_assoc', mul_comm', mul_left, add_assoc, add_comm, add_left, add_self, add_can, add_zero, zero_add, mul_zero, zero_mul']
theorem samer3_12 (M : Nat → Nat → F) (h0 : M 2 0 = M 1 0) (h1 : M 2 1 = M 1 1) (h2 : M 2 2 = M 1 2) : det 3 M = 0 := by
  rw [det3, h0, h1, h2]
  generalize M 0 0 = a00
  generalize M 0 1 = a01
  generalize M 0 2 = a02
  generalize M 1 0 = a10
  generalize M 1 1 = a11
  generalize M 1 2 = a12
  simp only [mul_add, add_mul, mul_assoc', mul_comm', mul_left, add_assoc, add_comm, add_left, add_self, add_can, add_zero, zero_add, mul_zero, zero_mul']
theorem samec4_01 (M : Nat → Nat → F) (h0 : M 0 1 = M 0 0) (h1 : M 1 1 = M 1 0) (h2 : M 2 1 = M 2 0) (h3 : M 3 1 = M 3 0) : det 4 M = 0 := by
  rw [det4, h0, h1, h2, h3]
  generalize M 0 0 = a00
  generalize M 0 2 = a02
  generalize M 0 3 = a03
  generalize M 1 0 = a10
  generalize M 1 2 = a12
  generalize M 1 3 = a13
  generalize M 2 0 = a20
  generalize M 2 2 = a22
  generalize M 2 3 = a23
  generalize M 3 0 = a30
  generalize M 3 2 = a32
  generalize M 3 3 = a33
  simp only [mul_add, add_mul, mul_assoc', mul_comm', mul_left, add_assoc, add_comm, add_left, add_self, add_can, add_zero, zero_add, mul_zero, zero_mul']
theorem samer4_01 (M : Nat → Nat → F) (h0 : M 1 0 = M 0 0) (h1 : M 1 1 = M 0 1) (h2 : M 1 2 = M 0 2) (h3 : M 1 3 = M 0 3) : det 4 M = 0 := by
  rw [det4, h0, h1, h2, h3]
  generalize M 0 0 = a00
  generalize M 0 1 = a01
  generalize M 0 2 = a02
  generalize M 0 3 = a03
  generalize M 2 0 = a20
  generalize M 2 1 = a21
  generalize M 2 2 = a22
  generalize M 2 3 = a23
  generalize M 3 0 = a30
  generalize M 3 1 = a31
  generalize M 3 2 = a32
  generalize M 3 3 = a33
  simp only [mul_add, add_mul, mul_assoc', mul_comm', mul_left, add_assoc, add_comm, add_left, add_self, add_can, add_zero, zero_add, mul_zero, zero_mul']
theorem samec4_02 (M : Nat → Nat → F) (h0 : M 0 2 = M 0 0) (h1 : M 1 2 = M 1 0) (h2 : M 2 2 = M 2 0) (h3 : M 3 2 = M 3 0) : det 4 M = 0 := by
  rw [det4, h0, h1, h2, h3]
  generalize M 0 0 = a00
  generalize M 0 1 = a01
  generalize M 0 3 = a03
  generalize M 1 0 = a10
  generalize M 1 1 = a11
  generalize M 1 3 = a13
  generalize M 2 0 = a20
  generalize M 2 1 = a21
  generalize M 2 3 = a23
  generalize M 3 0 = a30
  generalize M 3 1 = a31
  generalize M 3 3 = a33
  simp only [mul_add, add_mul, mul_assoc', mul_comm', mul_left, add_assoc, add_comm, add_left, add_self, add_can, add_zero, zero_add, mul_zero, zero_mul']
theorem samer4_02 (M : Nat → Nat → F) (h0 : M 2 0 = M 0 0) (h1 : M 2 1 = M 0 1) (h2 : M 2 2 = M 0 2) (h3 : M 2 3 = M 0 3) : det 4 M = 0 := by
  rw [det4, h0, h1, h2, h3]
  generalize M 0 0 = a00
  generalize M 0 1 = a01
  generalize M 0 2 = a02
  generalize M 0 3 = a03
  generalize M 1 0 = a10
  generalize M 1 1 = a11
  generalize M 1 2 = a12
  generalize M 1 3 = a13
  generalize M 3 0 = a30
  generalize M 3 1 = a31
  generalize M 3 2 = a32
  generalize M 3 3 = a33
  simp only [mul_add, add_mul, mul_assoc', mul_comm', mul_left, add_assoc, add_comm, add_left, add_self, add_can, add_zero, zero_add, mul_zero, zero_mul']
theorem samec4_03 (M : Nat → Nat → F) (h0 : M 0 3 = M 0 0) (h1 : M 1 3 = M 1 0) (h2 : M 2 3 = M 2 0) (h3 : M 3 3 = M 3 0) : det 4 M = 0 := by
  rw [det4, h0, h1, h2, h3]
  generalize M 0 0 = a00
  generalize M 0 1 = a01
  generalize M 0 2 = a02
  generalize M 1 0 = a10
  generalize M 1 1 = a11
  generalize M 1 2 = a12
  generalize M 2 0 = a20
  generalize M 2 1 = a21
  generalize M 2 2 = a22
  generalize M 3 0 = a30
  generalize M 3 1 = a31
  generalize M 3 2 = a32
  simp only [mul_add, add_mul, mul_assoc', mul_comm', mul_left, add_assoc, add_comm, add_left, add_self, add_can, add_zero, zero_add, mul_zero, zero_mul']
theorem samer4_03 (M : Nat → Nat → F) (h0 : M 3 0 = M 0 0) (h1 : M 3 1 = M 0 1) (h2 : M 3 2 = M 0 2) (h3 : M 3 3 = M 0 3) : det 4 M = 0 := by
  rw [det4, h0, h1, h2, h3]
  generalize M 0 0 = a00
  generalize M 0 1 = a01
  generalize M 0 2 = a02
  generalize M 0 3 = a03
  generalize M 1 0 = a10
  generalize M 1 1 = a11
  generalize M 1 2 = a12
  generalize M 1 3 = a13
  generalize M 2 0 = a20
  generalize M 2 1 = a21
  generalize M 2 2 = a22
  generalize M 2 3 = a23
  simp only [mul_add, add_mul, mul_assoc', mul_comm', mul_left, add_assoc, add_comm, add_left, add_self, add_can, add_zero, zero_add, mul_zero, zero_mul']
theorem samec4_12 (M : Nat → Nat → F) (h0 : M 0 2 = M 0 1) (h1 : M 1 2 = M 1 1) (h2 : M 2 2 = M 2 1) (h3 : M 3 2 = M 3 1) : det 4 M = 0 := by
  rw [det4, h0, h1, h2, h3]
  generalize M 0 0 = a00
  generalize M 0 1 = a01
  generalize M 0 3 = a03
  generalize M 1 0 = a10
  generalize M 1 1 = a11
  generalize M 1 3 = a13
  generalize M 2 0 = a20
  generalize M 2 1 = a21
  generalize M 2 3 = a23
  generalize M 3 0 = a30
  generalize M 3 1 = a31
  generalize M 3 3 = a33
  simp only [mul_add, add_mul, mul_assoc', mul_comm', mul_left, add_assoc, add_comm, add_left, add_self, add_can, add_zero, zero_add, mul_zero, zero_mul']
theorem samer4_12 (M : Nat → Nat → F) (h0 : M 2 0 = M 1 0) (h1 : M 2 1 = M 1 1) (h2 : M 2 2 = M 1 2) (h3 : M 2 3 = M 1 3) : det 4 M = 0 := by
  rw [det4, h0, h1, h2, h3]
  generalize M 0 0 = a00
  generalize M 0 1 = a01
  generalize M 0 2 = a02
  generalize M 0 3 = a03
  generalize M 1 0 = a10
  generalize M 1 1 = a11
  generalize M 1 2 = a12
  generalize M 1 3 = a13
  generalize M 3 0 = a30
  generalize M 3 1 = a31
  generalize M 3 2 = a32
  generalize M 3 3 = a33
  simp only [mul_add, add_mul, mul_assoc', mul_comm', mul_left, add_assoc, add_comm, add_left, add_self, add_can, add_zero, zero_add, mul_zero, zero_mul']
theorem samec4_13 (M : Nat → Nat → F) (h0 : M 0 3 = M 0 1) (h1 : M 1 3 = M 1 1) (h2 : M 2 3 = M 2 1) (h3 : M 3 3 = M 3 1) : det 4 M = 0 := by
  rw [det4, h0, h1, h2, h3]
  generalize M 0 0 = a00
  generalize M 0 1 = a01
  generalize M 0 2 = a02
  generalize M 1 0 = a10
  generalize M 1 1 = a11
  generalize M 1 2 = a12
  generalize M 2 0 = a20
  generalize M 2 1 = a21
  generalize M 2 2 = a22
  generalize M 3 0 = a30
  generalize M 3 1 = a31
  generalize M 3 2 = a32
  simp only [mul_add, add_mul, mul_assoc', mul_comm', mul_left, add_assoc, add_comm, add_left, add_self, add_can, add_zero, zero_add, mul_zero, zero_mul']
theorem samer4_13 (M : Nat → Nat → F) (h0 : M 3 0 = M 1 0) (h1 : M 3 1 = M 1 1) (h2 : M 3 2 = M 1 2) (h3 : M 3 3 = M 1 3) : det 4 M = 0 := by
  rw [det4, h0, h1, h2, h3]
  generalize M 0 0 = a00
  generalize M 0 1 = a01
  generalize M 0 2 = a02
  generalize M 0 3 = a03
  generalize M 1 0 = a10
  generalize M 1 1 = a11
  generalize M 1 2 = a12
  generalize M 1 3 = a13
  generalize M 2 0 = a20
  generalize M 2 1 = a21
  generalize M 2 2 = a22
  generalize M 2 3 = a23
  simp only [mul_add, add_mul, mul_assoc', mul_comm', mul_left, add_assoc, add_comm, add_left, add_self, add_can, add_zero, zero_add, mul_zero, zero_mul']
theorem samec4_23 (M : Nat → Nat → F) (h0 : M 0 3 = M 0 2) (h1 : M 1 3 = M 1 2) (h2 : M 2 3 = M 2 2) (h3 : M 3 3 = M 3 2) : det 4 M = 0 := by
  rw [det4, h0, h1, h2, h3]
  generalize M 0 0 = a00
  generalize M 0 1 = a01
  generalize M 0 2 = a02
  generalize M 1 0 = a10
  generalize M 1 1 = a11
  generalize M 1 2 = a12
  generalize M 2 0 = a20
  generalize M 2 1 = a21
  generalize M 2 2 = a22
  generalize M 3 0 = a30
  generalize M 3 1 = a31
  generalize M 3 2 = a32
  simp only [mul_add, add_mul, mul_assoc', mul_comm', mul_left, add_assoc, add_comm, add_left, add_self, add_can, add_zero, zero_add, mul_zero, zero_mul']
theorem samer4_23 (M : Nat → Nat → F) (h0 : M 3 0 = M 2 0) (h1 : M 3 1 = M 2 1) (h2 : M 3 2 = M 2 2) (h3 : M 3 3 = M 2 3) : det 4 M = 0 := by
  rw [det4, h0, h1, h2, h3]
  generalize M 0 0 = a00
  generalize M 0 1 = a01
  generalize M 0 2 = a02
  generalize M 0 3 = a03
  generalize M 1 0 = a10
  generalize M 1 1 = a11
  generalize M 1 2 = a12
  generalize M 1 3 = a13
  generalize M 2 0 = a20
  generalize M 2 1 = a21
  generalize M 2 2 = a22
  generalize M 2 3 = a23
  simp only [mul_add, add_mul, mul_assoc', mul_comm', mul_left, add_assoc, add_comm, add_left, add_self, add_can, add_zero, zero_add, mul_zero, zero_mul']
theorem det_col_same {n : Nat} (hn : n ≤ 4) {i j : Nat} (hij : i < j) (hj : j < n) (M : Nat → Nat → F) (h : ∀ r, r < n → M r i = M r j) : det n M = 0 := by
  have hc : (n = 2 ∧ i = 0 ∧ j = 1) ∨ (n = 3 ∧ i = 0 ∧ j = 1) ∨ (n = 3 ∧ i = 0 ∧ j = 2) ∨ (n = 3 ∧ i = 1 ∧ j = 2) ∨ (n = 4 ∧ i = 0 ∧ j = 1) ∨ (n = 4 ∧ i = 0 ∧ j = 2) ∨ (n = 4 ∧ i = 0 ∧ j = 3) ∨ (n = 4 ∧ i = 1 ∧ j = 2) ∨ (n = 4 ∧ i = 1 ∧ j = 3) ∨ (n = 4 ∧ i = 2 ∧ j = 3) := by omega
  rcases hc with ⟨rfl, rfl, rfl⟩ | ⟨rfl, rfl, rfl⟩ | ⟨rfl, rfl, rfl⟩ | ⟨rfl, rfl, rfl⟩ | ⟨rfl, rfl, rfl⟩ | ⟨rfl, rfl, rfl⟩ | ⟨rfl, rfl, rfl⟩ | ⟨rfl, rfl, rfl⟩ | ⟨rfl, rfl, rfl⟩ | ⟨rfl, rfl, rfl⟩
  · exact samec2_01 M (h 0 (by omega)).symm (h 1 (by omega)).symm
  · exact samec3_01 M (h 0 (by omega)).symm (h 1 (by omega)).symm (h 2 (by omega)).symm
  · exact samec3_02 M (h 0 (by omega)).symm (h 1 (by omega)).symm (h 2 (by omega)).symm
  · exact samec3_12 M (h 0 (by omega)).symm (h 1 (by omega)).symm (h 2 (by omega)).symm
  · exact samec4_01 M (h 0 (by omega)).symm (h 1 (by omega)).symm (h 2 (by omega)).symm (h 3 (by omega)).symm
  · exact samec4_02 M (h 0 (by omega)).symm (h 1 (by omega)).symm (h 2 (by omega)).symm (h 3 (by omega)).symm
  · exact samec4_03 M (h 0 (by omega)).symm (h 1 (by omega)).symm (h 2 (by omega)).symm (h 3 (by omega)).symm
  · exact samec4_12 M (h 0 (by omega)).symm (h 1 (by omega)).symm (h 2 (by omega)).symm (h 3 (by omega)).symm
  · exact samec4_13 M (h 0 (by omega)).symm (h 1 (by omega)).symm (h 2 (by omega)).symm (h 3 (by omega)).symm
  · exact samec4_23 M (h 0 (by omega)).symm (h 1 (by omega)).symm (h 2 (by omega)).symm (h 3 (by omega)).symm
theorem det_row_same {n : Nat} (hn : n ≤ 4) {i j : Nat} (hij : i < j) (hj : j < n) (M : Nat → Nat → F) (h : ∀ r, r < n → M i r = M j r) : det n M = 0 := by
  have hc : (n = 2 ∧ i = 0 ∧ j = 1) ∨ (n = 3 ∧ i = 0 ∧ j = 1) ∨ (n = 3 ∧ i = 0 ∧ j = 2) ∨ (n = 3 ∧ i = 1 ∧ j = 2) ∨ (n = 4 ∧ i = 0 ∧ j = 1) ∨ (n = 4 ∧ i = 0 ∧ j = 2) ∨ (n = 4 ∧ i = 0 ∧ j = 3) ∨ (n = 4 ∧ i = 1 ∧ j = 2) ∨ (n = 4 ∧ i = 1 ∧ j = 3) ∨ (n = 4 ∧ i = 2 ∧ j = 3) := by omega
  rcases hc with ⟨rfl, rfl, rfl⟩ | ⟨rfl, rfl, rfl⟩ | ⟨rfl, rfl, rfl⟩ | ⟨rfl, rfl, rfl⟩ | ⟨rfl, rfl, rfl⟩ | ⟨rfl, rfl, rfl⟩ | ⟨rfl, rfl, rfl⟩ | ⟨rfl, rfl, rfl⟩ | ⟨rfl, rfl, rfl⟩ | ⟨rfl, rfl, rfl⟩
  · exact samer2_01 M (h 0 (by omega)).symm (h 1 (by omega)).symm
  · exact samer3_01 M (h 0 (by omega)).symm (h 1 (by omega)).symm (h 2 (by omega)).symm
  · exact samer3_02 M (h 0 (by omega)).symm (h 1 (by omega)).symm (h 2 (by omega)).symm
  · exact samer3_12 M (h 0 (by omega)).symm (h 1 (by omega)).symm (h 2 (by omega)).symm
  · exact samer4_01 M (h 0 (by omega)).symm (h 1 (by omega)).symm (h 2 (by omega)).symm (h 3 (by omega)).symm
  · exact samer4_02 M (h 0 (by omega)).symm (h 1 (by omega)).symm (h 2 (by omega)).symm (h 3 (by omega)).symm
  · exact samer4_03 M (h 0 (by omega)).symm (h 1 (by omega)).symm (h 2 (by omega)).symm (h 3 (by omega)).symm
  · exact samer4_12 M (h 0 (by omega)).symm (h 1 (by omega)).symm (h 2 (by omega)).symm (h 3 (by omega)).symm
  · exact samer4_13 M (h 0 (by omega)).symm (h 1 (by omega)).symm (h 2 (by omega)).symm (h 3 (by omega)).symm
  · exact samer4_23 M (h 0 (by omega)).symm (h 1 (by omega)).symm (h 2 (by omega)).symm (h 3 (by omega)).symm
/-- Cramer's rule: the column i is what the matrix makes of x -/
theorem cramer {n : Nat} (hn : n ≤ 4) (A : Nat → Nat → F) (x : Nat → F) {i : Nat} (hi : i < n) : det n (stc A i fun r => sm n fun j => x j * A r j) = x i * det n A := by
  rw [det_col_sum n i A hi x A n]
  have hz : ∀ j, j < n → j ≠ i → det n (stc A i fun r => A r j) = 0 := fun j hj hne => by
    rcases Nat.lt_or_ge i j with h | h
    · exact det_col_same hn h hj _ fun r _ => by unfold stc; rw [if_pos rfl, if_neg hne]
    · exact det_col_same hn (show j < i by omega) hi _ fun r _ => by unfold stc; rw [if_pos rfl, if_neg hne]
  have key : ∀ m, (sm m fun j => if j < n then x j * det n (stc A i fun r => A r j) else 0) = if i < m then x i * det n A else 0 := fun m => by
    induction m with
    | zero => rfl
    | succ m ih =>
      show (sm m _) + (if m < n then _ else 0) = _
      rw [ih]
      by_cases h1 : m = i
      · subst h1
        rw [if_neg (by omega), if_pos hi, if_pos (by omega), zero_add, det_col_self]
      · by_cases h2 : m < n
        · rw [if_pos h2, hz m h2 h1, mul_zero, add_zero]
          by_cases h3 : i < m
          · rw [if_pos h3, if_pos (by omega)]
          · rw [if_neg h3, if_neg (by omega)]
        · rw [if_neg h2, add_zero, if_pos (by omega), if_pos (by omega)]
  have := key n
  rw [if_pos hi] at this
  rw [← this]
  exact sm_congr fun j hj => (if_pos hj).symm

/-! ### rows -/
def str (M : Nat → Nat → F) (t : Nat) (u : Nat → F) : Nat → Nat → F := fun r k => if r = t then u k else M r k
theorem mnr_str_self (t : Nat) (M : Nat → Nat → F) (u : Nat → F) : mnr t (str M t u) = mnr t M := by
  funext r c
  unfold mnr str
  by_cases h : r < t
  · rw [if_pos h, if_neg (by omega)]
  · rw [if_neg h, if_neg (by omega)]
theorem mnr_str (i t : Nat) (hne : i ≠ t) (M : Nat → Nat → F) (u : Nat → F) : mnr i (str M t u) = str (mnr i M) (if t < i then t else t - 1) (fun c => u (c + 1)) := by
  funext r c
  show (if (if r < i then r else r + 1) = t then u (c + 1) else M (if r < i then r else r + 1) (c + 1)) = (if r = (if t < i then t else t - 1) then u (c + 1) else M (if r < i then r else r + 1) (c + 1))
  have h : ((if r < i then r else r + 1) = t) ↔ (r = (if t < i then t else t - 1)) := by
    split <;> split <;> omega
  by_cases h2 : (if r < i then r else r + 1) = t
  · rw [if_pos h2, if_pos (h.1 h2)]
  · rw [if_neg h2, if_neg (fun e => h2 (h.2 e))]
theorem det_row_add : ∀ (n t : Nat) (M : Nat → Nat → F) (u v : Nat → F), t < n → det n (str M t fun k => u k + v k) = det n (str M t u) + det n (str M t v)
  | 0, _, _, _, _, h => absurd h (Nat.not_lt_zero _)
  | n + 1, t, M, u, v, h => by
    unfold det
    rw [← sm_add]
    refine sm_congr fun i hi => ?_
    by_cases he : i = t
    · subst he
      rw [mnr_str_self, mnr_str_self, mnr_str_self]
      have e : ∀ z : Nat → F, str M i z i 0 = z 0 := fun z => if_pos rfl
      rw [e, e, e, add_mul]
    · have e : ∀ z : Nat → F, str M t z i 0 = M i 0 := fun z => if_neg he
      rw [e, e, e, mnr_str i t he, mnr_str i t he, mnr_str i t he, ← mul_add]
      congr 1
      exact det_row_add n _ (mnr i M) _ _ (by split <;> omega)
theorem det_row_mul : ∀ (n t : Nat) (M : Nat → Nat → F) (s : F) (u : Nat → F), t < n → det n (str M t fun k => s * u k) = s * det n (str M t u)
  | 0, _, _, _, _, h => absurd h (Nat.not_lt_zero _)
  | n + 1, t, M, s, u, h => by
    unfold det
    rw [← sm_mul]
    refine sm_congr fun i hi => ?_
    by_cases he : i = t
    · subst he
      rw [mnr_str_self, mnr_str_self]
      have e : ∀ z : Nat → F, str M i z i 0 = z 0 := fun z => if_pos rfl
      rw [e, e, mul_assoc']
    · have e : ∀ z : Nat → F, str M t z i 0 = M i 0 := fun z => if_neg he
      rw [e, e, mnr_str i t he, mnr_str i t he, mul_left]
      congr 1
      exact det_row_mul n _ (mnr i M) _ _ (by split <;> omega)
theorem str_self (M : Nat → Nat → F) (t : Nat) : str M t (M t) = M := by
  funext r k
  unfold str
  by_cases h : r = t
  · rw [if_pos h, h]
  · rw [if_neg h]
theorem det_row_eq {n : Nat} (hn : n ≤ 4) {i j : Nat} (hij : i ≠ j) (hi : i < n) (hj : j < n) (M : Nat → Nat → F) (h : ∀ k, k < n → M i k = M j k) : det n M = 0 := by
  rcases Nat.lt_or_ge i j with h1 | h1
  · exact det_row_same hn h1 hj M h
  · exact det_row_same hn (show j < i by omega) hi M fun k hk => (h k hk).symm
/-- a multiple of one row is added to another -/
theorem det_row_step {n : Nat} (hn : n ≤ 4) {i t : Nat} (hne : i ≠ t) (hi : i < n) (ht : t < n) (M : Nat → Nat → F) (f : F) : det n (str M i fun k => M i k + f * M t k) = det n M := by
  rw [det_row_add n i M _ _ hi, det_row_mul n i M _ _ hi, str_self, det_row_eq hn hne hi ht (str M i fun k => M t k) fun k _ => ?_, mul_zero, add_zero]
  unfold str
  rw [if_pos rfl, if_neg (fun e => hne e.symm)]
/-- two rows change places -/
def swr (M : Nat → Nat → F) (a b : Nat) : Nat → Nat → F := fun i => if i = a then M b else if i = b then M a else M i
theorem det_swap {n : Nat} (hn : n ≤ 4) {a b : Nat} (ha : a < n) (hb : b < n) (M : Nat → Nat → F) : det n (swr M a b) = det n M := by
  by_cases hab : a = b
  · subst hab
    congr 1
    funext i
    unfold swr
    by_cases h : i = a
    · rw [if_pos h, h]
    · rw [if_neg h, if_neg h]
  · have h0 : det n (str (str M a fun k => M a k + M b k) b fun k => M a k + M b k) = 0 := det_row_eq hn hab ha hb _ fun k _ => by
      unfold str
      rw [if_neg hab, if_pos rfl, if_pos rfl]
    rw [det_row_add n b _ _ _ hb] at h0
    have e1 : ∀ z : Nat → F, str (str M a fun k => M a k + M b k) b z = str (str M b z) a fun k => M a k + M b k := fun z => by
      funext r k
      unfold str
      by_cases h1 : r = b
      · rw [if_pos h1, if_neg (by omega), if_pos h1]
      · rw [if_neg h1]
        by_cases h2 : r = a
        · rw [if_pos h2, if_pos h2]
        · rw [if_neg h2, if_neg h2, if_neg h1]
    rw [e1, e1, det_row_add n a _ _ _ ha, det_row_add n a _ _ _ ha] at h0
    have z1 : det n (str (str M b fun k => M a k) a fun k => M a k) = 0 := det_row_eq hn hab ha hb _ fun k _ => by
      unfold str
      rw [if_pos rfl, if_neg (fun e => hab e.symm), if_pos rfl]
    have z2 : det n (str (str M b fun k => M b k) a fun k => M b k) = 0 := det_row_eq hn hab ha hb _ fun k _ => by
      unfold str
      rw [if_pos rfl, if_neg (fun e => hab e.symm), if_pos rfl]
    rw [z1, z2, zero_add, add_zero] at h0
    have e2 : (str (str M b fun k => M b k) a fun k => M a k) = M := by
      rw [str_self M b, str_self M a]
    have e3 : (str (str M b fun k => M a k) a fun k => M b k) = swr M a b := by
      funext r k
      unfold str swr
      by_cases h1 : r = a
      · rw [if_pos h1, if_pos h1]
      · rw [if_neg h1, if_neg h1]
        by_cases h2 : r = b
        · rw [if_pos h2, if_pos h2]
        · rw [if_neg h2, if_neg h2]
    rw [e2, e3] at h0
    exact add_eq_zero h0
end Go.Proofs.Ytjmjnodaohbpfaa.fld
