import Derived.Test.YtjmjnodaohbpfaaGfPlain
/-
  Plain laws: determinants over the field of 256 elements, of at most four rows: Cramer's rule; what steps on rows do.
-/
namespace Go.Proofs.Ytjmjnodaohbpfaa.fld
open Go.Proofs.Ytjmjnodaohbpfaa.gf
set_option linter.unusedVariables false
set_option linter.unusedSimpArgs false

/-- an element -/
def F : Type := { n : Nat // n < 256 }
theorem F.ext {a b : F} (h : a.1 = b.1) : a = b := Subtype.ext h
instance : Zero F := ⟨⟨0, by omega⟩⟩
instance : One F := ⟨⟨1, by omega⟩⟩
instance : Add F := ⟨fun a b => ⟨a.1 ^^^ b.1, xor_lt8 a.2 b.2⟩⟩
instance : Mul F := ⟨fun a b => ⟨mul a.1 b.1, mul_lt _ _ a.2⟩⟩
theorem val_add (a b : F) : (a + b).1 = a.1 ^^^ b.1 := rfl
theorem val_mul (a b : F) : (a * b).1 = mul a.1 b.1 := rfl
theorem val_zero : (0 : F).1 = 0 := rfl
theorem val_one : (1 : F).1 = 1 := rfl
theorem add_assoc (a b c : F) : a + b + c = a + (b + c) := F.ext (Nat.xor_assoc _ _ _)
theorem add_comm (a b : F) : a + b = b + a := F.ext (Nat.xor_comm _ _)
theorem add_self (a : F) : a + a = 0 := F.ext (Nat.xor_self _)
theorem add_zero (a : F) : a + 0 = a := F.ext (Nat.xor_zero _)
theorem zero_add (a : F) : 0 + a = a := F.ext (Nat.zero_xor _)
theorem mul_assoc' (a b c : F) : a * b * c = a * (b * c) := F.ext (gf.mul_assoc _ _ _ a.2 b.2 c.2)
theorem mul_comm' (a b : F) : a * b = b * a := F.ext (gf.mul_comm _ _ a.2 b.2)
theorem mul_add (a b c : F) : a * (b + c) = a * b + a * c := F.ext (mul_xor _ _ _)
theorem add_mul (a b c : F) : (a + b) * c = a * c + b * c := F.ext (xor_mul _ _ _ a.2 b.2)
theorem mul_zero (a : F) : a * 0 = 0 := by rw [mul_comm']; exact F.ext (zero_mul _)
theorem zero_mul' (a : F) : 0 * a = 0 := F.ext (zero_mul _)
theorem mul_one' (a : F) : a * 1 = a := F.ext (gf.mul_one _)
theorem one_mul' (a : F) : 1 * a = a := by rw [mul_comm']; exact mul_one' a
theorem add_left (a b c : F) : a + (b + c) = b + (a + c) := by rw [← add_assoc, add_comm a b, add_assoc]
theorem mul_left (a b c : F) : a * (b * c) = b * (a * c) := by rw [← mul_assoc', mul_comm' a b, mul_assoc']
theorem add_can (a b : F) : a + (a + b) = b := by rw [← add_assoc, add_self, zero_add]
theorem add_eq_zero {a b : F} (h : a + b = 0) : a = b := by
  have : a + (a + b) = a + 0 := by rw [h]
  rw [add_can, add_zero] at this
  exact this.symm
theorem mul_ne_zero {a b : F} (ha : a ≠ 0) (hb : b ≠ 0) : a * b ≠ 0 := fun h => mul_ne a.1 b.1 a.2 b.2 (fun e => ha (F.ext e)) (fun e => hb (F.ext e)) (congrArg Subtype.val h)

def sm : Nat → (Nat → F) → F
  | 0, _ => 0
  | n + 1, f => sm n f + f n
theorem sm_congr : ∀ {n : Nat} {f g : Nat → F}, (∀ i, i < n → f i = g i) → sm n f = sm n g
  | 0, _, _, _ => rfl
  | n + 1, f, g, h => by
    show sm n f + f n = sm n g + g n
    rw [sm_congr fun i hi => h i (by omega), h n (by omega)]
theorem sm_add : ∀ (n : Nat) (f g : Nat → F), sm n (fun i => f i + g i) = sm n f + sm n g
  | 0, _, _ => (add_zero 0).symm
  | n + 1, f, g => by
    show sm n _ + (f n + g n) = (sm n f + f n) + (sm n g + g n)
    rw [sm_add n f g, add_assoc, add_assoc, add_left (sm n g)]
theorem sm_mul : ∀ (n : Nat) (s : F) (f : Nat → F), sm n (fun i => s * f i) = s * sm n f
  | 0, s, _ => (mul_zero s).symm
  | n + 1, s, f => by
    show sm n _ + s * f n = s * (sm n f + f n)
    rw [sm_mul n s f, mul_add]
theorem sm_zero : ∀ (n : Nat), sm n (fun _ => 0) = 0
  | 0 => rfl
  | n + 1 => by show sm n _ + 0 = 0; rw [sm_zero n, add_zero]

/-- without row i and the first column -/
def mnr (i : Nat) (M : Nat → Nat → F) : Nat → Nat → F := fun r c => M (if r < i then r else r + 1) (c + 1)
def det : Nat → (Nat → Nat → F) → F
  | 0, _ => 1
  | n + 1, M => sm (n + 1) fun i => M i 0 * det n (mnr i M)
theorem det_congr : ∀ {n : Nat} {M N : Nat → Nat → F}, (∀ r c, r < n → c < n → M r c = N r c) → det n M = det n N
  | 0, _, _, _ => rfl
  | n + 1, M, N, h => by
    unfold det
    refine sm_congr fun i hi => ?_
    rw [h i 0 hi (by omega), det_congr (M := mnr i M) (N := mnr i N) fun r c hr hc => ?_]
    unfold mnr
    split
    · exact h _ _ (by omega) (by omega)
    · exact h _ _ (by omega) (by omega)
/-- a column is another one -/
def stc (M : Nat → Nat → F) (c : Nat) (u : Nat → F) : Nat → Nat → F := fun r k => if k = c then u r else M r k
theorem mnr_stc0 (i : Nat) (M : Nat → Nat → F) (u : Nat → F) : mnr i (stc M 0 u) = mnr i M := by
  funext r c
  unfold mnr stc
  rw [if_neg (by omega)]
theorem mnr_stc (i c : Nat) (M : Nat → Nat → F) (u : Nat → F) : mnr i (stc M (c + 1) u) = stc (mnr i M) c (fun r => u (if r < i then r else r + 1)) := by
  funext r k
  unfold mnr stc
  by_cases h : k = c
  · rw [if_pos h, if_pos (by omega)]
  · rw [if_neg h, if_neg (by omega)]
theorem det_col_add : ∀ (n c : Nat) (M : Nat → Nat → F) (u v : Nat → F), c < n → det n (stc M c fun r => u r + v r) = det n (stc M c u) + det n (stc M c v)
  | 0, _, _, _, _, h => absurd h (Nat.not_lt_zero _)
  | n + 1, 0, M, u, v, _ => by
    unfold det
    rw [← sm_add]
    refine sm_congr fun i _ => ?_
    rw [mnr_stc0, mnr_stc0, mnr_stc0]
    show (u i + v i) * _ = u i * _ + v i * _
    rw [add_mul]
  | n + 1, c + 1, M, u, v, h => by
    unfold det
    rw [← sm_add]
    refine sm_congr fun i _ => ?_
    rw [mnr_stc, mnr_stc, mnr_stc, det_col_add n c (mnr i M) _ _ (by omega), mul_add]
    rfl
theorem det_col_mul : ∀ (n c : Nat) (M : Nat → Nat → F) (s : F) (u : Nat → F), c < n → det n (stc M c fun r => s * u r) = s * det n (stc M c u)
  | 0, _, _, _, _, h => absurd h (Nat.not_lt_zero _)
  | n + 1, 0, M, s, u, _ => by
    unfold det
    rw [← sm_mul]
    refine sm_congr fun i _ => ?_
    rw [mnr_stc0, mnr_stc0]
    show s * u i * _ = s * (u i * _)
    rw [mul_assoc']
  | n + 1, c + 1, M, s, u, h => by
    unfold det
    rw [← sm_mul]
    refine sm_congr fun i _ => ?_
    rw [mnr_stc, mnr_stc, det_col_mul n c (mnr i M) _ _ (by omega), mul_left]
    rfl
theorem det_col_zero (n c : Nat) (M : Nat → Nat → F) (h : c < n) : det n (stc M c fun _ => 0) = 0 := by
  have := det_col_mul n c M 0 (fun _ => 0) h
  rw [zero_mul'] at this
  rw [this, zero_mul']
theorem det_col_sum (n c : Nat) (M : Nat → Nat → F) (h : c < n) (x : Nat → F) (U : Nat → Nat → F) : ∀ m, det n (stc M c fun r => sm m fun j => x j * U r j) = sm m fun j => x j * det n (stc M c fun r => U r j)
  | 0 => det_col_zero n c M h
  | m + 1 => by
    show det n (stc M c fun r => (sm m fun j => x j * U r j) + x m * U r m) = _ + _
    rw [det_col_add n c M _ _ h, det_col_sum n c M h x U m, det_col_mul n c M _ _ h]
theorem det_col_self (n c : Nat) (M : Nat → Nat → F) : det n (stc M c fun r => M r c) = det n M := by
  congr 1
  funext r k
  unfold stc
  by_cases h : k = c
  · rw [if_pos h, h]
  · rw [if_neg h]

/-! ### of at most four rows -/
theorem det1 (M : Nat → Nat → F) : det 1 M = M 0 0 := by
  show 0 + M 0 0 * 1 = _
  rw [zero_add, mul_one']
theorem det2 (M : Nat → Nat → F) : det 2 M = M 0 0 * M 1 1 + M 1 0 * M 0 1 := by
  show (0 + M 0 0 * det 1 (mnr 0 M)) + M 1 0 * det 1 (mnr 1 M) = _
  rw [zero_add, det1, det1]
  rfl
theorem det3 (M : Nat → Nat → F) : det 3 M = (M 0 0 * (M 1 1 * M 2 2 + M 2 1 * M 1 2) + M 1 0 * (M 0 1 * M 2 2 + M 2 1 * M 0 2)) + M 2 0 * (M 0 1 * M 1 2 + M 1 1 * M 0 2) := by
  show ((0 + M 0 0 * det 2 (mnr 0 M)) + M 1 0 * det 2 (mnr 1 M)) + M 2 0 * det 2 (mnr 2 M) = _
  rw [zero_add, det2, det2, det2]
  rfl
theorem det4 (M : Nat → Nat → F) : det 4 M = (((M 0 0 * ((M 1 1 * (M 2 2 * M 3 3 + M 3 2 * M 2 3) + M 2 1 * (M 1 2 * M 3 3 + M 3 2 * M 1 3)) + M 3 1 * (M 1 2 * M 2 3 + M 2 2 * M 1 3)) + M 1 0 * ((M 0 1 * (M 2 2 * M 3 3 + M 3 2 * M 2 3) + M 2 1 * (M 0 2 * M 3 3 + M 3 2 * M 0 3)) + M 3 1 * (M 0 2 * M 2 3 + M 2 2 * M 0 3))) + M 2 0 * ((M 0 1 * (M 1 2 * M 3 3 + M 3 2 * M 1 3) + M 1 1 * (M 0 2 * M 3 3 + M 3 2 * M 0 3)) + M 3 1 * (M 0 2 * M 1 3 + M 1 2 * M 0 3))) + M 3 0 * ((M 0 1 * (M 1 2 * M 2 3 + M 2 2 * M 1 3) + M 1 1 * (M 0 2 * M 2 3 + M 2 2 * M 0 3)) + M 2 1 * (M 0 2 * M 1 3 + M 1 2 * M 0 3))) := by
  show (((0 + M 0 0 * det 3 (mnr 0 M)) + M 1 0 * det 3 (mnr 1 M)) + M 2 0 * det 3 (mnr 2 M)) + M 3 0 * det 3 (mnr 3 M) = _
  rw [zero_add, det3, det3, det3, det3]
  rfl
theorem samec2_01 (M : Nat → Nat → F) (h0 : M 0 1 = M 0 0) (h1 : M 1 1 = M 1 0) : det 2 M = 0 := by
  rw [det2, h0, h1]
  generalize M 0 0 = a00
  generalize M 1 0 = a10
  simp only [mul_add, add_mul, mul_assoc', mul_comm', mul_left, add_assoc, add_comm, add_left, add_self, add_can, add_zero, zero_add, mul_zero, zero_mul']
theorem samer2_01 (M : Nat → Nat → F) (h0 : M 1 0 = M 0 0) (h1 : M 1 1 = M 0 1) : det 2 M = 0 := by
  rw [det2, h0, h1]
  generalize M 0 0 = a00
  generalize M 0 1 = a01
  simp only [mul_add, add_mul, mul_assoc', mul_comm', mul_left, add_assoc, add_comm, add_left, add_self, add_can, add_zero, zero_add, mul_zero, zero_mul']
theorem samec3_01 (M : Nat → Nat → F) (h0 : M 0 1 = M 0 0) (h1 : M 1 1 = M 1 0) (h2 : M 2 1 = M 2 0) : det 3 M = 0 := by
  rw [det3, h0, h1, h2]
  generalize M 0 0 = a00
  generalize M 0 2 = a02
  generalize M 1 0 = a10
  generalize M 1 2 = a12
  generalize M 2 0 = a20
  generalize M 2 2 = a22
  simp only [mul_add, add_mul, mul_assoc', mul_comm', mul_left, add_assoc, add_comm, add_left, add_self, add_can, add_zero, zero_add, mul_zero, zero_mul']
theorem samer3_01 (M : Nat → Nat → F) (h0 : M 1 0 = M 0 0) (h1 : M 1 1 = M 0 1) (h2 : M 1 2 = M 0 2) : det 3 M = 0 := by
  rw [det3, h0, h1, h2]
  generalize M 0 0 = a00
  generalize M 0 1 = a01
  generalize M 0 2 = a02
  generalize M 2 0 = a20
  generalize M 2 1 = a21
  generalize M 2 2 = a22
  simp only [mul_add, add_mul, mul_assoc', mul_comm', mul_left, add_assoc, add_comm, add_left, add_self, add_can, add_zero, zero_add, mul_zero, zero_mul']
theorem samec3_02 (M : Nat → Nat → F) (h0 : M 0 2 = M 0 0) (h1 : M 1 2 = M 1 0) (h2 : M 2 2 = M 2 0) : det 3 M = 0 := by
  rw [det3, h0, h1, h2]
  generalize M 0 0 = a00
  generalize M 0 1 = a01
  generalize M 1 0 = a10
  generalize M 1 1 = a11
  generalize M 2 0 = a20
  generalize M 2 1 = a21
  simp only [mul_add, add_mul, mul_assoc', mul_comm', mul_left, add_assoc, add_comm, add_left, add_self, add_can, add_zero, zero_add, mul_zero, zero_mul']
theorem samer3_02 (M : Nat → Nat → F) (h0 : M 2 0 = M 0 0) (h1 : M 2 1 = M 0 1) (h2 : M 2 2 = M 0 2) : det 3 M = 0 := by
  rw [det3, h0, h1, h2]
  generalize M 0 0 = a00
  generalize M 0 1 = a01
  generalize M 0 2 = a02
  generalize M 1 0 = a10
  generalize M 1 1 = a11
  generalize M 1 2 = a12
  simp only [mul_add, add_mul, mul_assoc', mul_comm', mul_left, add_assoc, add_comm, add_left, add_self, add_can, add_zero, zero_add, mul_zero, zero_mul']
theorem samec3_12 (M : Nat → Nat → F) (h0 : M 0 2 = M 0 1) (h1 : M 1 2 = M 1 1) (h2 : M 2 2 = M 2 1) : det 3 M = 0 := by
  rw [det3, h0, h1, h2]
  generalize M 0 0 = a00
  generalize M 0 1 = a01
  generalize M 1 0 = a10
  generalize M 1 1 = a11
  generalize M 2 0 = a20
  generalize M 2 1 = a21
  simp only [mul_add, add_mul, mul_assoc', mul_comm', mul_left, add_assoc, add_comm, add_left, add_self, add_can, add_zero, zero_add, mul_zero, zero_mul']
theorem samer3_12 (M : Nat → Nat → F) (h0 : M 2 0 = M 1 0) (h1 : M 2 1 = M 1 1) (h2 : M 2 2 = M 1 2) : det 3 M = 0 := by
  rw [det3, h0, h1, h2]
  generalize M 0 0 = a00
  generalize M 0 1 = a01
  generalize M 0 2 = a02
  generalize M 1 0 = a10
  generalize M 1 1 = a11
  generalize M 1 2 = a12
  simp only [mul_add, add_mul, mul_assoc', mul_comm', mul_left, add_assoc, add_comm, add_left, add_self, add_can, add_zero, zero_add, mul_zero, zero_mul']
theorem samec4_01 (M : Nat → Nat → F) (h0 : M 0 1 = M 0 0) (h1 : M 1 1 = M 1 0) (h2 : M 2 1 = M 2 0) (h3 : M 3 1 = M 3 0) : det 4 M = 0 := by
  rw [det4, h0, h1, h2, h3]
  generalize M 0 0 = a00
  generalize M 0 2 = a02
  generalize M 0 3 = a03
  generalize M 1 0 = a10
  generalize M 1 2 = a12
  generalize M 1 3 = a13
  generalize M 2 0 = a20
  generalize M 2 2 = a22
  generalize M 2 3 = a23
  generalize M 3 0 = a30
  generalize M 3 2 = a32
  generalize M 3 3 = a33
  simp only [mul_add, add_mul, mul_assoc', mul_comm', mul_left, add_assoc, add_comm, add_left, add_self, add_can, add_zero, zero_add, mul_zero, zero_mul']
theorem samer4_01 (M : Nat → Nat → F) (h0 : M 1 0 = M 0 0) (h1 : M 1 1 = M 0 1) (h2 : M 1 2 = M 0 2) (h3 : M 1 3 = M 0 3) : det 4 M = 0 := by
  rw [det4, h0, h1, h2, h3]
  generalize M 0 0 = a00
  generalize M 0 1 = a01
  generalize M 0 2 = a02
  generalize M 0 3 = a03
  generalize M 2 0 = a20
  generalize M 2 1 = a21
  generalize M 2 2 = a22
  generalize M 2 3 = a23
  generalize M 3 0 = a30
  generalize M 3 1 = a31
  generalize M 3 2 = a32
  generalize M 3 3 = a33
  simp only [mul_add, add_mul, mul_assoc', mul_comm', mul_left, add_assoc, add_comm, add_left, add_self, add_can, add_zero, zero_add, mul_zero, zero_mul']
theorem samec4_02 (M : Nat → Nat → F) (h0 : M 0 2 = M 0 0) (h1 : M 1 2 = M 1 0) (h2 : M 2 2 = M 2 0) (h3 : M 3 2 = M 3 0) : det 4 M = 0 := by
  rw [det4, h0, h1, h2, h3]
  generalize M 0 0 = a00
  generalize M 0 1 = a01
  generalize M 0 3 = a03
  generalize M 1 0 = a10
  generalize M 1 1 = a11
  generalize M 1 3 = a13
  generalize M 2 0 = a20
  generalize M 2 1 = a21
  generalize M 2 3 = a23
  generalize M 3 0 = a30
  generalize M 3 1 = a31
  generalize M 3 3 = a33
  simp only [mul_add, add_mul, mul_assoc', mul_comm', mul_left, add_assoc, add_comm, add_left, add_self, add_can, add_zero, zero_add, mul_zero, zero_mul']
theorem samer4_02 (M : Nat → Nat → F) (h0 : M 2 0 = M 0 0) (h1 : M 2 1 = M 0 1) (h2 : M 2 2 = M 0 2) (h3 : M 2 3 = M 0 3) : det 4 M = 0 := by
  rw [det4, h0, h1, h2, h3]
  generalize M 0 0 = a00
  generalize M 0 1 = a01
  generalize M 0 2 = a02
  generalize M 0 3 = a03
  generalize M 1 0 = a10
  generalize M 1 1 = a11
  generalize M 1 2 = a12
  generalize M 1 3 = a13
  generalize M 3 0 = a30
  generalize M 3 1 = a31
  generalize M 3 2 = a32
  generalize M 3 3 = a33
  simp only [mul_add, add_mul, mul_assoc', mul_comm', mul_left, add_assoc, add_comm, add_left, add_self, add_can, add_zero, zero_add, mul_zero, zero_mul']
theorem samec4_03 (M : Nat → Nat → F) (h0 : M 0 3 = M 0 0) (h1 : M 1 3 = M 1 0) (h2 : M 2 3 = M 2 0) (h3 : M 3 3 = M 3 0) : det 4 M = 0 := by
  rw [det4, h0, h1, h2, h3]
  generalize M 0 0 = a00
  generalize M 0 1 = a01
  generalize M 0 2 = a02
  generalize M 1 0 = a10
  generalize M 1 1 = a11
  generalize M 1 2 = a12
  generalize M 2 0 = a20
  generalize M 2 1 = a21
  generalize M 2 2 = a22
  generalize M 3 0 = a30
  generalize M 3 1 = a31
  generalize M 3 2 = a32
  simp only [mul_add, add_mul, mul_assoc', mul_comm', mul_left, add_assoc, add_comm, add_left, add_self, add_can, add_zero, zero_add, mul_zero, zero_mul']
theorem samer4_03 (M : Nat → Nat → F) (h0 : M 3 0 = M 0 0) (h1 : M 3 1 = M 0 1) (h2 : M 3 2 = M 0 2) (h3 : M 3 3 = M 0 3) : det 4 M = 0 := by
  rw [det4, h0, h1, h2, h3]
  generalize M 0 0 = a00
  generalize M 0 1 = a01
  generalize M 0 2 = a02
  generalize M 0 3 = a03
  generalize M 1 0 = a10
  generalize M 1 1 = a11
  generalize M 1 2 = a12
  generalize M 1 3 = a13
  generalize M 2 0 = a20
  generalize M 2 1 = a21
  generalize M 2 2 = a22
  generalize M 2 3 = a23
  simp only [mul_add, add_mul, mul_assoc', mul_comm', mul_left, add_assoc, add_comm, add_left, add_self, add_can, add_zero, zero_add, mul_zero, zero_mul']
theorem samec4_12 (M : Nat → Nat → F) (h0 : M 0 2 = M 0 1) (h1 : M 1 2 = M 1 1) (h2 : M 2 2 = M 2 1) (h3 : M 3 2 = M 3 1) : det 4 M = 0 := by
  rw [det4, h0, h1, h2, h3]
  generalize M 0 0 = a00
  generalize M 0 1 = a01
  generalize M 0 3 = a03
  generalize M 1 0 = a10
  generalize M 1 1 = a11
  generalize M 1 3 = a13
  generalize M 2 0 = a20
  generalize M 2 1 = a21
  generalize M 2 3 = a23
  generalize M 3 0 = a30
  generalize M 3 1 = a31
  generalize M 3 3 = a33
  simp only [mul_add, add_mul, mul_assoc', mul_comm', mul_left, add_assoc, add_comm, add_left, add_self, add_can, add_zero, zero_add, mul_zero, zero_mul']
theorem samer4_12 (M : Nat → Nat → F) (h0 : M 2 0 = M 1 0) (h1 : M 2 1 = M 1 1) (h2 : M 2 2 = M 1 2) (h3 : M 2 3 = M 1 3) : det 4 M = 0 := by
  rw [det4, h0, h1, h2, h3]
  generalize M 0 0 = a00
  generalize M 0 1 = a01
  generalize M 0 2 = a02
  generalize M 0 3 = a03
  generalize M 1 0 = a10
  generalize M 1 1 = a11
  generalize M 1 2 = a12
  generalize M 1 3 = a13
  generalize M 3 0 = a30
  generalize M 3 1 = a31
  generalize M 3 2 = a32
  generalize M 3 3 = a33
  simp only [mul_add, add_mul, mul_assoc', mul_comm', mul_left, add_assoc, add_comm, add_left, add_self, add_can, add_zero, zero_add, mul_zero, zero_mul']
theorem samec4_13 (M : Nat → Nat → F) (h0 : M 0 3 = M 0 1) (h1 : M 1 3 = M 1 1) (h2 : M 2 3 = M 2 1) (h3 : M 3 3 = M 3 1) : det 4 M = 0 := by
  rw [det4, h0, h1, h2, h3]
  generalize M 0 0 = a00
  generalize M 0 1 = a01
  generalize M 0 2 = a02
  generalize M 1 0 = a10
  generalize M 1 1 = a11
  generalize M 1 2 = a12
  generalize M 2 0 = a20
  generalize M 2 1 = a21
  generalize M 2 2 = a22
  generalize M 3 0 = a30
  generalize M 3 1 = a31
  generalize M 3 2 = a32
  simp only [mul_add, add_mul, mul_assoc', mul_comm', mul_left, add_assoc, add_comm, add_left, add_self, add_can, add_zero, zero_add, mul_zero, zero_mul']
theorem samer4_13 (M : Nat → Nat → F) (h0 : M 3 0 = M 1 0) (h1 : M 3 1 = M 1 1) (h2 : M 3 2 = M 1 2) (h3 : M 3 3 = M 1 3) : det 4 M = 0 := by
  rw [det4, h0, h1, h2, h3]
  generalize M 0 0 = a00
  generalize M 0 1 = a01
  generalize M 0 2 = a02
  generalize M 0 3 = a03
  generalize M 1 0 = a10
  generalize M 1 1 = a11
  generalize M 1 2 = a12
  generalize M 1 3 = a13
  generalize M 2 0 = a20
  generalize M 2 1 = a21
  generalize M 2 2 = a22
  generalize M 2 3 = a23
  simp only [mul_add, add_mul, mul_assoc', mul_comm', mul_left, add_assoc, add_comm, add_left, add_self, add_can, add_zero, zero_add, mul_zero, zero_mul']
theorem samec4_23 (M : Nat → Nat → F) (h0 : M 0 3 = M 0 2) (h1 : M 1 3 = M 1 2) (h2 : M 2 3 = M 2 2) (h3 : M 3 3 = M 3 2) : det 4 M = 0 := by
  rw [det4, h0, h1, h2, h3]
  generalize M 0 0 = a00
  generalize M 0 1 = a01
  generalize M 0 2 = a02
  generalize M 1 0 = a10
  generalize M 1 1 = a11
  generalize M 1 2 = a12
  generalize M 2 0 = a20
  generalize M 2 1 = a21
  generalize M 2 2 = a22
  generalize M 3 0 = a30
  generalize M 3 1 = a31
  generalize M 3 2 = a32
  simp only [mul_add, add_mul, mul_assoc', mul_comm', mul_left, add_assoc, add_comm, add_left, add_self, add_can, add_zero, zero_add, mul_zero, zero_mul']
theorem samer4_23 (M : Nat → Nat → F) (h0 : M 3 0 = M 2 0) (h1 : M 3 1 = M 2 1) (h2 : M 3 2 = M 2 2) (h3 : M 3 3 = M 2 3) : det 4 M = 0 := by
  rw [det4, h0, h1, h2, h3]
  generalize M 0 0 = a00
  generalize M 0 1 = a01
  generalize M 0 2 = a02
  generalize M 0 3 = a03
  generalize M 1 0 = a10
  generalize M 1 1 = a11
  generalize M 1 2 = a12
  generalize M 1 3 = a13
  generalize M 2 0 = a20
  generalize M 2 1 = a21
  generalize M 2 2 = a22
  generalize M 2 3 = a23
  simp only [mul_add, add_mul, mul_assoc', mul_comm', mul_left, add_assoc, add_comm, add_left, add_self, add_can, add_zero, zero_add, mul_zero, zero_mul']
theorem det_col_same {n : Nat} (hn : n ≤ 4) {i j : Nat} (hij : i < j) (hj : j < n) (M : Nat → Nat → F) (h : ∀ r, r < n → M r i = M r j) : det n M = 0 := by
  have hc : (n = 2 ∧ i = 0 ∧ j = 1) ∨ (n = 3 ∧ i = 0 ∧ j = 1) ∨ (n = 3 ∧ i = 0 ∧ j = 2) ∨ (n = 3 ∧ i = 1 ∧ j = 2) ∨ (n = 4 ∧ i = 0 ∧ j = 1) ∨ (n = 4 ∧ i = 0 ∧ j = 2) ∨ (n = 4 ∧ i = 0 ∧ j = 3) ∨ (n = 4 ∧ i = 1 ∧ j = 2) ∨ (n = 4 ∧ i = 1 ∧ j = 3) ∨ (n = 4 ∧ i = 2 ∧ j = 3) := by omega
  rcases hc with ⟨rfl, rfl, rfl⟩ | ⟨rfl, rfl, rfl⟩ | ⟨rfl, rfl, rfl⟩ | ⟨rfl, rfl, rfl⟩ | ⟨rfl, rfl, rfl⟩ | ⟨rfl, rfl, rfl⟩ | ⟨rfl, rfl, rfl⟩ | ⟨rfl, rfl, rfl⟩ | ⟨rfl, rfl, rfl⟩ | ⟨rfl, rfl, rfl⟩
  · exact samec2_01 M (h 0 (by omega)).symm (h 1 (by omega)).symm
  · exact samec3_01 M (h 0 (by omega)).symm (h 1 (by omega)).symm (h 2 (by omega)).symm
  · exact samec3_02 M (h 0 (by omega)).symm (h 1 (by omega)).symm (h 2 (by omega)).symm
  · exact samec3_12 M (h 0 (by omega)).symm (h 1 (by omega)).symm (h 2 (by omega)).symm
  · exact samec4_01 M (h 0 (by omega)).symm (h 1 (by omega)).symm (h 2 (by omega)).symm (h 3 (by omega)).symm
  · exact samec4_02 M (h 0 (by omega)).symm (h 1 (by omega)).symm (h 2 (by omega)).symm (h 3 (by omega)).symm
  · exact samec4_03 M (h 0 (by omega)).symm (h 1 (by omega)).symm (h 2 (by omega)).symm (h 3 (by omega)).symm
  · exact samec4_12 M (h 0 (by omega)).symm (h 1 (by omega)).symm (h 2 (by omega)).symm (h 3 (by omega)).symm
  · exact samec4_13 M (h 0 (by omega)).symm (h 1 (by omega)).symm (h 2 (by omega)).symm (h 3 (by omega)).symm
  · exact samec4_23 M (h 0 (by omega)).symm (h 1 (by omega)).symm (h 2 (by omega)).symm (h 3 (by omega)).symm
theorem det_row_same {n : Nat} (hn : n ≤ 4) {i j : Nat} (hij : i < j) (hj : j < n) (M : Nat → Nat → F) (h : ∀ r, r < n → M i r = M j r) : det n M = 0 := by
  have hc : (n = 2 ∧ i = 0 ∧ j = 1) ∨ (n = 3 ∧ i = 0 ∧ j = 1) ∨ (n = 3 ∧ i = 0 ∧ j = 2) ∨ (n = 3 ∧ i = 1 ∧ j = 2) ∨ (n = 4 ∧ i = 0 ∧ j = 1) ∨ (n = 4 ∧ i = 0 ∧ j = 2) ∨ (n = 4 ∧ i = 0 ∧ j = 3) ∨ (n = 4 ∧ i = 1 ∧ j = 2) ∨ (n = 4 ∧ i = 1 ∧ j = 3) ∨ (n = 4 ∧ i = 2 ∧ j = 3) := by omega
  rcases hc with ⟨rfl, rfl, rfl⟩ | ⟨rfl, rfl, rfl⟩ | ⟨rfl, rfl, rfl⟩ | ⟨rfl, rfl, rfl⟩ | ⟨rfl, rfl, rfl⟩ | ⟨rfl, rfl, rfl⟩ | ⟨rfl, rfl, rfl⟩ | ⟨rfl, rfl, rfl⟩ | ⟨rfl, rfl, rfl⟩ | ⟨rfl, rfl, rfl⟩
  · exact samer2_01 M (h 0 (by omega)).symm (h 1 (by omega)).symm
  · exact samer3_01 M (h 0 (by omega)).symm (h 1 (by omega)).symm (h 2 (by omega)).symm
  · exact samer3_02 M (h 0 (by omega)).symm (h 1 (by omega)).symm (h 2 (by omega)).symm
  · exact samer3_12 M (h 0 (by omega)).symm (h 1 (by omega)).symm (h 2 (by omega)).symm
  · exact samer4_01 M (h 0 (by omega)).symm (h 1 (by omega)).symm (h 2 (by omega)).symm (h 3 (by omega)).symm
  · exact samer4_02 M (h 0 (by omega)).symm (h 1 (by omega)).symm (h 2 (by omega)).symm (h 3 (by omega)).symm
  · exact samer4_03 M (h 0 (by omega)).symm (h 1 (by omega)).symm (h 2 (by omega)).symm (h 3 (by omega)).symm
  · exact samer4_12 M (h 0 (by omega)).symm (h 1 (by omega)).symm (h 2 (by omega)).symm (h 3 (by omega)).symm
  · exact samer4_13 M (h 0 (by omega)).symm (h 1 (by omega)).symm (h 2 (by omega)).symm (h 3 (by omega)).symm
  · exact samer4_23 M (h 0 (by omega)).symm (h 1 (by omega)).symm (h 2 (by omega)).symm (h 3 (by omega)).symm
/-- Cramer's rule: the column i is what the matrix makes of x -/
theorem cramer {n : Nat} (hn : n ≤ 4) (A : Nat → Nat → F) (x : Nat → F) {i : Nat} (hi : i < n) : det n (stc A i fun r => sm n fun j => x j * A r j) = x i * det n A := by
  rw [det_col_sum n i A hi x A n]
  have hz : ∀ j, j < n → j ≠ i → det n (stc A i fun r => A r j) = 0 := fun j hj hne => by
    rcases Nat.lt_or_ge i j with h | h
    · exact det_col_same hn h hj _ fun r _ => by unfold stc; rw [if_pos rfl, if_neg hne]
    · exact det_col_same hn (show j < i by omega) hi _ fun r _ => by unfold stc; rw [if_pos rfl, if_neg hne]
  have key : ∀ m, (sm m fun j => if j < n then x j * det n (stc A i fun r => A r j) else 0) = if i < m then x i * det n A else 0 := fun m => by
    induction m with
    | zero => rfl
    | succ m ih =>
      show (sm m _) + (if m < n then _ else 0) = _
      rw [ih]
      by_cases h1 : m = i
      · subst h1
        rw [if_neg (by omega), if_pos hi, if_pos (by omega), zero_add, det_col_self]
      · by_cases h2 : m < n
        · rw [if_pos h2, hz m h2 h1, mul_zero, add_zero]
          by_cases h3 : i < m
          · rw [if_pos h3, if_pos (by omega)]
          · rw [if_neg h3, if_neg (by omega)]
        · rw [if_neg h2, add_zero, if_pos (by omega), if_pos (by omega)]
  have := key n
  rw [if_pos hi] at this
  rw [← this]
  exact sm_congr fun j hj => (if_pos hj).symm

/-! ### rows -/
def str (M : Nat → Nat → F) (t : Nat) (u : Nat → F) : Nat → Nat → F := fun r k => if r = t then u k else M r k
theorem mnr_str_self (t : Nat) (M : Nat → Nat → F) (u : Nat → F) : mnr t (str M t u) = mnr t M := by
  funext r c
  unfold mnr str
  by_cases h : r < t
  · rw [if_pos h, if_neg (by omega)]
  · rw [if_neg h, if_neg (by omega)]
theorem mnr_str (i t : Nat) (hne : i ≠ t) (M : Nat → Nat → F) (u : Nat → F) : mnr i (str M t u) = str (mnr i M) (if t < i then t else t - 1) (fun c => u (c + 1)) := by
  funext r c
  show (if (if r < i then r else r + 1) = t then u (c + 1) else M (if r < i then r else r + 1) (c + 1)) = (if r = (if t < i then t else t - 1) then u (c + 1) else M (if r < i then r else r + 1) (c + 1))
  have h : ((if r < i then r else r + 1) = t) ↔ (r = (if t < i then t else t - 1)) := by
    split <;> split <;> omega
  by_cases h2 : (if r < i then r else r + 1) = t
  · rw [if_pos h2, if_pos (h.1 h2)]
  · rw [if_neg h2, if_neg (fun e => h2 (h.2 e))]
theorem det_row_add : ∀ (n t : Nat) (M : Nat → Nat → F) (u v : Nat → F), t < n → det n (str M t fun k => u k + v k) = det n (str M t u) + det n (str M t v)
  | 0, _, _, _, _, h => absurd h (Nat.not_lt_zero _)
  | n + 1, t, M, u, v, h => by
    unfold det
    rw [← sm_add]
    refine sm_congr fun i hi => ?_
    by_cases he : i = t
    · subst he
      rw [mnr_str_self, mnr_str_self, mnr_str_self]
      have e : ∀ z : Nat → F, str M i z i 0 = z 0 := fun z => if_pos rfl
      rw [e, e, e, add_mul]
    · have e : ∀ z : Nat → F, str M t z i 0 = M i 0 := fun z => if_neg he
      rw [e, e, e, mnr_str i t he, mnr_str i t he, mnr_str i t he, ← mul_add]
      congr 1
      exact det_row_add n _ (mnr i M) _ _ (by split <;> omega)
theorem det_row_mul : ∀ (n t : Nat) (M : Nat → Nat → F) (s : F) (u : Nat → F), t < n → det n (str M t fun k => s * u k) = s * det n (str M t u)
  | 0, _, _, _, _, h => absurd h (Nat.not_lt_zero _)
  | n + 1, t, M, s, u, h => by
    unfold det
    rw [← sm_mul]
    refine sm_congr fun i hi => ?_
    by_cases he : i = t
    · subst he
      rw [mnr_str_self, mnr_str_self]
      have e : ∀ z : Nat → F, str M i z i 0 = z 0 := fun z => if_pos rfl
      rw [e, e, mul_assoc']
    · have e : ∀ z : Nat → F, str M t z i 0 = M i 0 := fun z => if_neg he
      rw [e, e, mnr_str i t he, mnr_str i t he, mul_left]
      congr 1
      exact det_row_mul n _ (mnr i M) _ _ (by split <;> omega)
theorem str_self (M : Nat → Nat → F) (t : Nat) : str M t (M t) = M := by
  funext r k
  unfold str
  by_cases h : r = t
  · rw [if_pos h, h]
  · rw [if_neg h]
theorem det_row_eq {n : Nat} (hn : n ≤ 4) {i j : Nat} (hij : i ≠ j) (hi : i < n) (hj : j < n) (M : Nat → Nat → F) (h : ∀ k, k < n → M i k = M j k) : det n M = 0 := by
  rcases Nat.lt_or_ge i j with h1 | h1
  · exact det_row_same hn h1 hj M h
  · exact det_row_same hn (show j < i by omega) hi M fun k hk => (h k hk).symm
/-- a multiple of one row is added to another -/
theorem det_row_step {n : Nat} (hn : n ≤ 4) {i t : Nat} (hne : i ≠ t) (hi : i < n) (ht : t < n) (M : Nat → Nat → F) (f : F) : det n (str M i fun k => M i k + f * M t k) = det n M := by
  rw [det_row_add n i M _ _ hi, det_row_mul n i M _ _ hi, str_self, det_row_eq hn hne hi ht (str M i fun k => M t k) fun k _ => ?_, mul_zero, add_zero]
  unfold str
  rw [if_pos rfl, if_neg (fun e => hne e.symm)]
/-- two rows change places -/
def swr (M : Nat → Nat → F) (a b : Nat) : Nat → Nat → F := fun i => if i = a then M b else if i = b then M a else M i
theorem det_swap {n : Nat} (hn : n ≤ 4) {a b : Nat} (ha : a < n) (hb : b < n) (M : Nat → Nat → F) : det n (swr M a b) = det n M := by
  by_cases hab : a = b
  · subst hab
    congr 1
    funext i
    unfold swr
    by_cases h : i = a
    · rw [if_pos h, h]
    · rw [if_neg h, if_neg h]
  · have h0 : det n (str (str M a fun k => M a k + M b k) b fun k => M a k + M b k) = 0 := det_row_eq hn hab ha hb _ fun k _ => by
      unfold str
      rw [if_neg hab, if_pos rfl, if_pos rfl]
    rw [det_row_add n b _ _ _ hb] at h0
    have e1 : ∀ z : Nat → F, str (str M a fun k => M a k + M b k) b z = str (str M b z) a fun k => M a k + M b k := fun z => by
      funext r k
      unfold str
      by_cases h1 : r = b
      · rw [if_pos h1, if_neg (by omega), if_pos h1]
      · rw [if_neg h1]
        by_cases h2 : r = a
        · rw [if_pos h2, if_pos h2]
        · rw [if_neg h2, if_neg h2, if_neg h1]
    rw [e1, e1, det_row_add n a _ _ _ ha, det_row_add n a _ _ _ ha] at h0
    have z1 : det n (str (str M b fun k => M a k) a fun k => M a k) = 0 := det_row_eq hn hab ha hb _ fun k _ => by
      unfold str
      rw [if_pos rfl, if_neg (fun e => hab e.symm), if_pos rfl]
    have z2 : det n (str (str M b fun k => M b k) a fun k => M b k) = 0 := det_row_eq hn hab ha hb _ fun k _ => by
      unfold str
      rw [if_pos rfl, if_neg (fun e => hab e.symm), if_pos rfl]
    rw [z1, z2, zero_add, add_zero] at h0
    have e2 : (str (str M b fun k => M b k) a fun k => M a k) = M := by
      rw [str_self M b, str_self M a]
    have e3 : (str (str M b fun k => M a k) a fun k => M b k) = swr M a b := by
      funext r k
      unfold str swr
      by_cases h1 : r = a
      · rw [if_pos h1, if_pos h1]
      · rw [if_neg h1, if_neg h1]
        by_cases h2 : r = b
        · rw [if_pos h2, if_pos h2]
        · rw [if_neg h2, if_neg h2]
    rw [e2, e3] at h0
    exact add_eq_zero h0
end Go.Proofs.Ytjmjnodaohbpfaa.fld

/-
  Plain laws: rows are cleared column by column, by the two texts; both find the same number of rows.
-/
namespace Go.Proofs.Ytjmjnodaohbpfaa.mat
set_option linter.unusedVariables false
open Go.Proofs.Ytjmjnodaohbpfaa.gf

/-- the first row from t on, of k rows, that has something in column c -/
def pv (Z : Nat → Nat → Nat) (c : Nat) : Nat → Nat → Option Nat
  | _, 0 => none
  | t, k + 1 => if Z t c = 0 then pv Z c (t + 1) k else some t
theorem pv_some {Z : Nat → Nat → Nat} {c : Nat} : ∀ {k t p : Nat}, pv Z c t k = some p → t ≤ p ∧ p < t + k ∧ Z p c ≠ 0
  | 0, _, _, h => by cases h
  | k + 1, t, p, h => by
    unfold pv at h
    split at h
    · obtain ⟨h1, h2, h3⟩ := pv_some h
      exact ⟨by omega, by omega, h3⟩
    · rename_i h0
      cases h
      exact ⟨Nat.le_refl _, by omega, h0⟩
theorem pv_congr {Z Y : Nat → Nat → Nat} {c : Nat} : ∀ {k t : Nat}, (∀ i, t ≤ i → i < t + k → Z i c = Y i c) → pv Z c t k = pv Y c t k
  | 0, _, _ => rfl
  | k + 1, t, h => by
    unfold pv
    rw [h t (Nat.le_refl _) (by omega), pv_congr (k := k) (t := t + 1) fun i h1 h2 => h i (by omega) (by omega)]
theorem pv_next {Z : Nat → Nat → Nat} {c t k : Nat} (h : Z t c = 0) : pv Z c t (k + 1) = pv Z c (t + 1) k := if_pos h
/-- what the search has come to: the rows from t on, ahead of t + j, have nothing there -/
theorem pv_skip {Z : Nat → Nat → Nat} {c : Nat} : ∀ {j t k : Nat}, j ≤ k → (∀ i, t ≤ i → i < t + j → Z i c = 0) → pv Z c t k = pv Z c (t + j) (k - j)
  | 0, t, k, _, _ => rfl
  | j + 1, t, k, hj, h => by
    obtain ⟨k, rfl⟩ : ∃ k', k = k' + 1 := ⟨k - 1, by omega⟩
    rw [pv_next (h t (Nat.le_refl _) (by omega)), pv_skip (j := j) (t := t + 1) (k := k) (by omega) fun i h1 h2 => h i (by omega) (by omega)]
    rw [show t + 1 + j = t + (j + 1) by omega, show k - j = k + 1 - (j + 1) by omega]
theorem pv_found {Z : Nat → Nat → Nat} {c t j k : Nat} (hj : j < k) (h : ∀ i, t ≤ i → i < t + j → Z i c = 0) (h0 : Z (t + j) c ≠ 0) : pv Z c t k = some (t + j) := by
  rw [pv_skip (Nat.le_of_lt hj) h]
  obtain ⟨d, hd⟩ : ∃ d, k - j = d + 1 := ⟨k - j - 1, by omega⟩
  rw [hd]
  unfold pv
  rw [if_neg h0]
theorem pv_none {Z : Nat → Nat → Nat} {c t k : Nat} (h : ∀ i, t ≤ i → i < t + k → Z i c = 0) : pv Z c t k = none := by
  rw [pv_skip (Nat.le_refl k) h, Nat.sub_self]
  rfl
def swp (Z : Nat → Nat → Nat) (a b : Nat) : Nat → Nat → Nat := fun i => if i = a then Z b else if i = b then Z a else Z i
/-- one column of the reference -/
def eliR (Y : Nat → Nat → Nat) (c t : Nat) : Nat → Nat → Nat := fun i k => if t < i then Y i k ^^^ mul (divN (Y i c) (Y t c)) (Y t k) else Y i k
/-- one column of the program -/
def scaP (Y : Nat → Nat → Nat) (c t : Nat) : Nat → Nat → Nat := fun i k => if i = t then mul (Y t k) (divN 1 (Y t c)) else Y i k
def eliP (Y : Nat → Nat → Nat) (c t : Nat) : Nat → Nat → Nat := fun i k => if i = t then Y i k else if Y i c = 0 then Y i k else Y i k ^^^ mul (Y i c) (Y t k)
def stR (Z0 : Nat → Nat → Nat) (n : Nat) : Nat → (Nat → Nat → Nat) × Nat
  | 0 => (Z0, 0)
  | c + 1 => match pv (stR Z0 n c).1 c (stR Z0 n c).2 (n - (stR Z0 n c).2) with
    | none => stR Z0 n c
    | some p => (eliR (swp (stR Z0 n c).1 (stR Z0 n c).2 p) c (stR Z0 n c).2, (stR Z0 n c).2 + 1)
def stP (Z0 : Nat → Nat → Nat) (n : Nat) : Nat → (Nat → Nat → Nat) × Nat
  | 0 => (Z0, 0)
  | c + 1 => match pv (stP Z0 n c).1 c (stP Z0 n c).2 (n - (stP Z0 n c).2) with
    | none => stP Z0 n c
    | some p => (eliP (scaP (swp (stP Z0 n c).1 (stP Z0 n c).2 p) c (stP Z0 n c).2) c (stP Z0 n c).2, (stP Z0 n c).2 + 1)
theorem stR_none {Z0 : Nat → Nat → Nat} {n c : Nat} (h : pv (stR Z0 n c).1 c (stR Z0 n c).2 (n - (stR Z0 n c).2) = none) : stR Z0 n (c + 1) = stR Z0 n c := by
  rw [stR, h]
theorem stR_some {Z0 : Nat → Nat → Nat} {n c p : Nat} (h : pv (stR Z0 n c).1 c (stR Z0 n c).2 (n - (stR Z0 n c).2) = some p) : stR Z0 n (c + 1) = (eliR (swp (stR Z0 n c).1 (stR Z0 n c).2 p) c (stR Z0 n c).2, (stR Z0 n c).2 + 1) := by
  rw [stR, h]
theorem stP_none {Z0 : Nat → Nat → Nat} {n c : Nat} (h : pv (stP Z0 n c).1 c (stP Z0 n c).2 (n - (stP Z0 n c).2) = none) : stP Z0 n (c + 1) = stP Z0 n c := by
  rw [stP, h]
theorem stP_some {Z0 : Nat → Nat → Nat} {n c p : Nat} (h : pv (stP Z0 n c).1 c (stP Z0 n c).2 (n - (stP Z0 n c).2) = some p) : stP Z0 n (c + 1) = (eliP (scaP (swp (stP Z0 n c).1 (stP Z0 n c).2 p) c (stP Z0 n c).2) c (stP Z0 n c).2, (stP Z0 n c).2 + 1) := by
  rw [stP, h]
def bytesP (Z : Nat → Nat → Nat) (n m : Nat) : Prop := ∀ i k, i < n → k < m → Z i k < 256
theorem swp_bytes {Z : Nat → Nat → Nat} {n m a b : Nat} (h : bytesP Z n m) (ha : a < n) (hb : b < n) : bytesP (swp Z a b) n m := fun i k hi hk => by
  unfold swp
  split
  · exact h _ _ hb hk
  · split
    · exact h _ _ ha hk
    · exact h _ _ hi hk
theorem eliR_bytes {Y : Nat → Nat → Nat} {n m c t : Nat} (h : bytesP Y n m) (ht : t < n) : bytesP (eliR Y c t) n m := fun i k hi hk => by
  unfold eliR
  split
  · exact xor_lt8 (h _ _ hi hk) (mul_lt _ _ (divN_lt _ _))
  · exact h _ _ hi hk
theorem scaP_bytes {Y : Nat → Nat → Nat} {n m c t : Nat} (h : bytesP Y n m) (ht : t < n) : bytesP (scaP Y c t) n m := fun i k hi hk => by
  unfold scaP
  split
  · exact mul_lt _ _ (h _ _ ht hk)
  · exact h _ _ hi hk
theorem eliP_bytes {Y : Nat → Nat → Nat} {n m c t : Nat} (h : bytesP Y n m) (hc : c < m) : bytesP (eliP Y c t) n m := fun i k hi hk => by
  unfold eliP
  split
  · exact h _ _ hi hk
  · split
    · exact h _ _ hi hk
    · exact xor_lt8 (h _ _ hi hk) (mul_lt _ _ (h _ _ hi hc))
theorem stR_bytes {Z0 : Nat → Nat → Nat} {n m : Nat} (h : bytesP Z0 n m) : ∀ c, bytesP (stR Z0 n c).1 n m ∧ (stR Z0 n c).2 ≤ n
  | 0 => ⟨h, Nat.zero_le _⟩
  | c + 1 => by
    obtain ⟨h1, h2⟩ := stR_bytes h c
    cases hp : pv (stR Z0 n c).1 c (stR Z0 n c).2 (n - (stR Z0 n c).2) with
    | none => rw [stR_none hp]; exact ⟨h1, h2⟩
    | some p =>
      obtain ⟨g1, g2, _⟩ := pv_some hp
      rw [stR_some hp]
      exact ⟨eliR_bytes (swp_bytes h1 (by omega) (by omega)) (by omega), by simp only; omega⟩
theorem stP_bytes {Z0 : Nat → Nat → Nat} {n m : Nat} (h : bytesP Z0 n m) : ∀ c, c ≤ m → bytesP (stP Z0 n c).1 n m ∧ (stP Z0 n c).2 ≤ n
  | 0, _ => ⟨h, Nat.zero_le _⟩
  | c + 1, hc => by
    obtain ⟨h1, h2⟩ := stP_bytes h c (by omega)
    cases hp : pv (stP Z0 n c).1 c (stP Z0 n c).2 (n - (stP Z0 n c).2) with
    | none => rw [stP_none hp]; exact ⟨h1, h2⟩
    | some p =>
      obtain ⟨g1, g2, _⟩ := pv_some hp
      rw [stP_some hp]
      exact ⟨eliP_bytes (scaP_bytes (swp_bytes h1 (by omega) (by omega)) (by omega)) (by omega), by simp only; omega⟩
/-- a quotient is a product with the inverse -/
theorem div_inv (a b : Nat) (ha : a < 256) (hb : b < 256) (b0 : b ≠ 0) : divN a b = mul a (divN 1 b) := by
  symm
  rw [← div_unique _ a b (mul_lt _ _ ha) ha hb b0, mul_assoc _ _ _ ha (divN_lt _ _) hb, div_mul 1 b (by omega) hb b0, mul_one]
/-- the rows below come out the same -/
theorem step_same {a b p q : Nat} (ha : a < 256) (hb : b < 256) (hp : p < 256) (hq : q < 256) (q0 : q ≠ 0) : (if b = 0 then a else a ^^^ mul b (mul p (divN 1 q))) = a ^^^ mul (divN b q) p := by
  by_cases h0 : b = 0
  · subst h0
    rw [if_pos rfl, show divN 0 q = 0 from if_pos rfl, zero_mul, Nat.xor_zero]
  · rw [if_neg h0, div_inv b q hb hq q0, mul_assoc _ _ _ hb (divN_lt _ _) hp, mul_comm (divN 1 q) p (divN_lt _ _) hp]
/-- both texts find the same: the rows that are not done yet are alike -/
theorem rank_same {Z0 Y0 : Nat → Nat → Nat} {n m : Nat} (hZ : bytesP Z0 n m) (hY : bytesP Y0 n m) (h0 : ∀ i k, i < n → k < m → Z0 i k = Y0 i k) :
    ∀ c, c ≤ m → (stR Z0 n c).2 = (stP Y0 n c).2 ∧ ∀ i k, (stR Z0 n c).2 ≤ i → i < n → k < m → (stR Z0 n c).1 i k = (stP Y0 n c).1 i k
  | 0, _ => ⟨rfl, fun i k _ h1 h2 => h0 i k h1 h2⟩
  | c + 1, hc => by
    obtain ⟨e1, e2⟩ := rank_same hZ hY h0 c (by omega)
    obtain ⟨b1, b2⟩ := stR_bytes hZ c
    obtain ⟨b3, _⟩ := stP_bytes hY c (by omega)
    have hpv : pv (stR Z0 n c).1 c (stR Z0 n c).2 (n - (stR Z0 n c).2) = pv (stP Y0 n c).1 c (stP Y0 n c).2 (n - (stP Y0 n c).2) := by
      rw [← e1]
      exact pv_congr fun i h1 h2 => e2 i c h1 (by omega) (by omega)
    cases hp : pv (stR Z0 n c).1 c (stR Z0 n c).2 (n - (stR Z0 n c).2) with
    | none =>
      rw [stR_none hp, stP_none (hpv ▸ hp)]
      exact ⟨e1, e2⟩
    | some p =>
      obtain ⟨g1, g2, g3⟩ := pv_some hp
      rw [stR_some hp, stP_some (hpv ▸ hp)]
      refine ⟨by simp only; omega, fun i k hi hin hk => ?_⟩
      simp only at hi
      rw [← e1]
      generalize (stR Z0 n c).2 = t at *
      generalize (stR Z0 n c).1 = Z at *
      generalize (stP Y0 n c).1 = Y at *
      have hs : ∀ j k, t ≤ j → j < n → k < m → swp Z t p j k = swp Y t p j k := fun j k h1 h2 h3 => by
        unfold swp
        split
        · exact e2 p k g1 (by omega) h3
        · split
          · exact e2 t k (Nat.le_refl _) (by omega) h3
          · exact e2 j k h1 h2 h3
      have hb1 := swp_bytes b1 (a := t) (b := p) (by omega) (by omega)
      have q0 : swp Z t p t c ≠ 0 := by unfold swp; rw [if_pos rfl]; exact g3
      have hit : ¬ i = t := by omega
      simp only [eliR, eliP]
      rw [if_pos (by omega), if_neg hit]
      have e3 : scaP (swp Y t p) c t i c = swp Y t p i c := by unfold scaP; rw [if_neg hit]
      have e4 : scaP (swp Y t p) c t i k = swp Y t p i k := by unfold scaP; rw [if_neg hit]
      have e5 : scaP (swp Y t p) c t t k = mul (swp Y t p t k) (divN 1 (swp Y t p t c)) := by unfold scaP; rw [if_pos rfl]
      rw [e3, e4, e5, ← hs i k (by omega) hin hk, ← hs i c (by omega) hin (by omega), ← hs t k (Nat.le_refl _) (by omega) hk, ← hs t c (Nat.le_refl _) (by omega) (by omega)]
      exact (step_same (hb1 _ _ hin hk) (hb1 _ _ hin (by omega)) (hb1 _ _ (by omega) hk) (hb1 _ _ (by omega) (by omega)) q0).symm
end Go.Proofs.Ytjmjnodaohbpfaa.mat

/-
  Plain laws: steps on rows keep what a matrix makes of a list; what is left when every column has its row.
-/
namespace Go.Proofs.Ytjmjnodaohbpfaa.fld
open Go.Proofs.Ytjmjnodaohbpfaa.gf Go.Proofs.Ytjmjnodaohbpfaa.mat
set_option linter.unusedVariables false

def ofN (x : Nat) : F := ⟨x % 256, Nat.mod_lt _ (by omega)⟩
theorem ofN_val {x : Nat} (h : x < 256) : (ofN x).1 = x := Nat.mod_eq_of_lt h
theorem ofN_of {x : Nat} {a : F} (h : x = a.1) : ofN x = a := F.ext (by rw [h]; exact Nat.mod_eq_of_lt a.2)
theorem ofN_xor {a b : Nat} (ha : a < 256) (hb : b < 256) : ofN (a ^^^ b) = ofN a + ofN b := ofN_of (by rw [val_add, ofN_val ha, ofN_val hb])
theorem ofN_mul {a b : Nat} (ha : a < 256) (hb : b < 256) : ofN (mul a b) = ofN a * ofN b := ofN_of (by rw [val_mul, ofN_val ha, ofN_val hb])
theorem ofN_inj {a b : Nat} (ha : a < 256) (hb : b < 256) (h : ofN a = ofN b) : a = b := by
  have := congrArg Subtype.val h
  rwa [ofN_val ha, ofN_val hb] at this
theorem ofN_zero : ofN 0 = 0 := rfl
theorem ofN_one : ofN 1 = 1 := rfl
def toF (Z : Nat → Nat → Nat) : Nat → Nat → F := fun i k => ofN (Z i k)

/-- what a row makes of a list -/
def dt (M : Nat) (r y : Nat → F) : F := sm M fun k => r k * y k
theorem dt_congr {M : Nat} {r s y : Nat → F} (h : ∀ k, k < M → r k = s k) : dt M r y = dt M s y := sm_congr fun k hk => by rw [h k hk]
theorem dt_add (M : Nat) (r s y : Nat → F) : dt M (fun k => r k + s k) y = dt M r y + dt M s y := by
  unfold dt
  rw [← sm_add]
  exact sm_congr fun k _ => add_mul _ _ _
theorem dt_mul (M : Nat) (a : F) (r y : Nat → F) : dt M (fun k => a * r k) y = a * dt M r y := by
  unfold dt
  rw [← sm_mul]
  exact sm_congr fun k _ => mul_assoc' _ _ _
/-- all rows make nought of a list -/
def kl (M n : Nat) (Z : Nat → Nat → F) (y : Nat → F) : Prop := ∀ i, i < n → dt M (Z i) y = 0
theorem kl_congr {M n : Nat} {Z Y : Nat → Nat → F} {y : Nat → F} (h : ∀ i k, i < n → k < M → Z i k = Y i k) : kl M n Z y ↔ kl M n Y y :=
  ⟨fun g i hi => by rw [← g i hi]; exact (dt_congr fun k hk => h i k hi hk).symm, fun g i hi => by rw [← g i hi]; exact dt_congr fun k hk => h i k hi hk⟩
theorem kl_swap {M n a b : Nat} (ha : a < n) (hb : b < n) (Z : Nat → Nat → F) (y : Nat → F) : kl M n (swr Z a b) y ↔ kl M n Z y := by
  have e : ∀ i, i < n → ∃ j, j < n ∧ swr Z a b i = Z j := fun i hi => by
    unfold swr
    by_cases h1 : i = a
    · exact ⟨b, hb, by rw [if_pos h1]⟩
    · by_cases h2 : i = b
      · exact ⟨a, ha, by rw [if_neg h1, if_pos h2]⟩
      · exact ⟨i, hi, by rw [if_neg h1, if_neg h2]⟩
  have e' : ∀ i, i < n → ∃ j, j < n ∧ Z i = swr Z a b j := fun i hi => by
    by_cases h1 : i = b
    · exact ⟨a, ha, by unfold swr; rw [if_pos rfl, h1]⟩
    · by_cases h2 : i = a
      · refine ⟨b, hb, ?_⟩
        unfold swr
        by_cases h3 : b = a
        · omega
        · rw [if_neg h3, if_pos rfl, h2]
      · exact ⟨i, hi, by unfold swr; rw [if_neg h2, if_neg h1]⟩
  constructor
  · intro g i hi
    obtain ⟨j, hj, h⟩ := e' i hi
    rw [h]; exact g j hj
  · intro g i hi
    obtain ⟨j, hj, h⟩ := e i hi
    rw [h]; exact g j hj
theorem kl_scale {M n t : Nat} (ht : t < n) (s : F) (hs : s ≠ 0) (Z : Nat → Nat → F) (y : Nat → F) : kl M n (str Z t fun k => s * Z t k) y ↔ kl M n Z y := by
  have e1 : ∀ i, i ≠ t → (str Z t fun k => s * Z t k) i = Z i := fun i h => by funext k; unfold str; rw [if_neg h]
  have e2 : (str Z t fun k => s * Z t k) t = fun k => s * Z t k := by funext k; unfold str; rw [if_pos rfl]
  constructor
  · intro g i hi
    by_cases h : i = t
    · subst h
      have := g i hi
      rw [e2, dt_mul] at this
      rcases Classical.em (dt M (Z i) y = 0) with h0 | h0
      · exact h0
      · exact absurd this (mul_ne_zero hs h0)
    · have := g i hi
      rwa [e1 i h] at this
  · intro g i hi
    by_cases h : i = t
    · subst h
      rw [e2, dt_mul, g i hi, mul_zero]
    · rw [e1 i h]; exact g i hi
/-- multiples of row t are added to the others -/
def gst (Z : Nat → Nat → F) (t : Nat) (f : Nat → F) : Nat → Nat → F := fun i k => if i = t then Z t k else Z i k + f i * Z t k
theorem kl_step {M n t : Nat} (ht : t < n) (f : Nat → F) (Z : Nat → Nat → F) (y : Nat → F) : kl M n (gst Z t f) y ↔ kl M n Z y := by
  have e1 : gst Z t f t = Z t := by funext k; unfold gst; rw [if_pos rfl]
  have e2 : ∀ i, i ≠ t → gst Z t f i = fun k => Z i k + f i * Z t k := fun i h => by funext k; unfold gst; rw [if_neg h]
  constructor
  · intro g i hi
    have ht0 := g t ht
    rw [e1] at ht0
    by_cases h : i = t
    · subst h; exact ht0
    · have := g i hi
      rw [e2 i h, dt_add, dt_mul, ht0, mul_zero, add_zero] at this
      exact this
  · intro g i hi
    by_cases h : i = t
    · subst h; rw [e1]; exact g i hi
    · rw [e2 i h, dt_add, dt_mul, g t ht, mul_zero, add_zero]; exact g i hi
theorem det_gst {n t : Nat} (hn : n ≤ 4) (ht : t < n) (f : Nat → F) (Z : Nat → Nat → F) : det n (gst Z t f) = det n Z := by
  have key : ∀ m, m ≤ n → det n (fun i k => if i < m ∧ i ≠ t then Z i k + f i * Z t k else Z i k) = det n Z := fun m hm => by
    induction m with
    | zero => exact det_congr fun r c _ _ => by rw [if_neg (by omega)]
    | succ m ih =>
      rw [← ih (by omega)]
      by_cases h : m = t
      · exact det_congr fun r c _ _ => by
          by_cases h1 : r < m ∧ r ≠ t
          · rw [if_pos h1, if_pos ⟨by omega, h1.2⟩]
          · rw [if_neg h1, if_neg (by omega)]
      · rw [← det_row_step hn h (show m < n by omega) ht (fun i k => if i < m ∧ i ≠ t then Z i k + f i * Z t k else Z i k) (f m)]
        refine det_congr fun r c _ _ => ?_
        unfold str
        by_cases h1 : r = m
        · subst h1
          rw [if_pos ⟨by omega, h⟩, if_pos rfl]
          show _ = (if r < r ∧ r ≠ t then Z r c + f r * Z t c else Z r c) + f r * (if t < r ∧ t ≠ t then Z t c + f t * Z t c else Z t c)
          rw [if_neg (by omega), if_neg (by omega)]
        · rw [if_neg h1]
          show _ = (if r < m ∧ r ≠ t then Z r c + f r * Z t c else Z r c)
          by_cases h2 : r < m ∧ r ≠ t
          · rw [if_pos h2, if_pos ⟨by omega, h2.2⟩]
          · rw [if_neg h2, if_neg (by omega)]
  rw [← key n (Nat.le_refl _)]
  refine det_congr fun r c hr _ => ?_
  unfold gst
  by_cases h : r = t
  · rw [if_pos h, if_neg (by omega), h]
  · rw [if_neg h, if_pos ⟨hr, h⟩]
theorem det_scale {n t : Nat} (ht : t < n) (s : F) (Z : Nat → Nat → F) : det n (str Z t fun k => s * Z t k) = s * det n Z := by
  rw [det_row_mul n t Z s _ ht, str_self]

/-! ### the two texts' columns -/
theorem toF_swp (Z : Nat → Nat → Nat) (a b : Nat) : toF (swp Z a b) = swr (toF Z) a b := by
  funext i k
  unfold toF swp swr
  split
  · rfl
  · split <;> rfl
theorem toF_sca {Y : Nat → Nat → Nat} {n m c t : Nat} (hb : bytesP Y n m) (ht : t < n) (hc : c < m) : ∀ i k, i < n → k < m → toF (scaP Y c t) i k = str (toF Y) t (fun k => ofN (divN 1 (Y t c)) * toF Y t k) i k := fun i k hi hk => by
  unfold toF scaP str
  by_cases h : i = t
  · rw [if_pos h, if_pos h, ofN_mul (hb t k ht hk) (divN_lt _ _), mul_comm']
  · rw [if_neg h, if_neg h]
theorem toF_eliP {Y : Nat → Nat → Nat} {n m c t : Nat} (hb : bytesP Y n m) (ht : t < n) (hc : c < m) : ∀ i k, i < n → k < m → toF (eliP Y c t) i k = gst (toF Y) t (fun i => toF Y i c) i k := fun i k hi hk => by
  unfold toF eliP gst
  by_cases h : i = t
  · rw [if_pos h, if_pos h, h]
  · rw [if_neg h, if_neg h]
    show _ = ofN (Y i k) + ofN (Y i c) * ofN (Y t k)
    by_cases h0 : Y i c = 0
    · rw [if_pos h0, h0, ofN_zero, zero_mul', add_zero]
    · rw [if_neg h0, ofN_xor (hb i k hi hk) (mul_lt _ _ (hb i c hi hc)), ofN_mul (hb i c hi hc) (hb t k ht hk)]
theorem toF_eliR {Y : Nat → Nat → Nat} {n m c t : Nat} (hb : bytesP Y n m) (ht : t < n) (hc : c < m) : ∀ i k, i < n → k < m → toF (eliR Y c t) i k = gst (toF Y) t (fun i => if t < i then ofN (divN (Y i c) (Y t c)) else 0) i k := fun i k hi hk => by
  unfold toF eliR gst
  by_cases h : i = t
  · rw [if_neg (by omega), if_pos h, h]
  · rw [if_neg h]
    show _ = ofN (Y i k) + (if t < i then ofN (divN (Y i c) (Y t c)) else 0) * ofN (Y t k)
    by_cases h1 : t < i
    · rw [if_pos h1, if_pos h1, ofN_xor (hb i k hi hk) (mul_lt _ _ (divN_lt _ _)), ofN_mul (divN_lt _ _) (hb t k ht hk)]
    · rw [if_neg h1, if_neg h1, zero_mul', add_zero]
theorem inv_ne {a : Nat} (ha : a < 256) (a0 : a ≠ 0) : ofN (divN 1 a) ≠ 0 := fun h => by
  have h1 : ofN (mul (divN 1 a) a) = 0 := by rw [ofN_mul (divN_lt _ _) ha, h, zero_mul']
  rw [div_mul 1 a (by omega) ha a0] at h1
  have := congrArg Subtype.val h1
  exact absurd this (by decide)
/-- one column of the program keeps what the matrix makes nought of -/
theorem kl_stP {Z0 : Nat → Nat → Nat} {n M : Nat} (hb : bytesP Z0 n M) (y : Nat → F) : ∀ c, c ≤ M → (kl M n (toF (stP Z0 n c).1) y ↔ kl M n (toF Z0) y)
  | 0, _ => Iff.rfl
  | c + 1, hc => by
    have ih := kl_stP hb y c (by omega)
    obtain ⟨h1, h2⟩ := stP_bytes hb c (by omega)
    cases hp : pv (stP Z0 n c).1 c (stP Z0 n c).2 (n - (stP Z0 n c).2) with
    | none => rw [stP_none hp]; exact ih
    | some p =>
      obtain ⟨g1, g2, g3⟩ := pv_some hp
      rw [stP_some hp]
      generalize (stP Z0 n c).2 = t at *
      generalize (stP Z0 n c).1 = Z at *
      have htn : t < n := by omega
      have hb1 := swp_bytes h1 (a := t) (b := p) htn (by omega)
      have hb2 := scaP_bytes (c := c) hb1 htn
      have q0 : swp Z t p t c ≠ 0 := by unfold swp; rw [if_pos rfl]; exact g3
      rw [← ih, kl_congr (toF_eliP hb2 htn (show c < M by omega)), kl_step htn, kl_congr (toF_sca hb1 htn (show c < M by omega)), kl_scale htn _ (inv_ne (hb1 _ _ htn (by omega)) q0), toF_swp, kl_swap htn (by omega)]
theorem kl_stR {Z0 : Nat → Nat → Nat} {n M : Nat} (hb : bytesP Z0 n M) (y : Nat → F) : ∀ c, c ≤ M → (kl M n (toF (stR Z0 n c).1) y ↔ kl M n (toF Z0) y)
  | 0, _ => Iff.rfl
  | c + 1, hc => by
    have ih := kl_stR hb y c (by omega)
    obtain ⟨h1, h2⟩ := stR_bytes hb c
    cases hp : pv (stR Z0 n c).1 c (stR Z0 n c).2 (n - (stR Z0 n c).2) with
    | none => rw [stR_none hp]; exact ih
    | some p =>
      obtain ⟨g1, g2, g3⟩ := pv_some hp
      rw [stR_some hp]
      generalize (stR Z0 n c).2 = t at *
      generalize (stR Z0 n c).1 = Z at *
      have htn : t < n := by omega
      have hb1 := swp_bytes h1 (a := t) (b := p) htn (by omega)
      rw [← ih, kl_congr (toF_eliR hb1 htn (show c < M by omega)), kl_step htn, toF_swp, kl_swap htn (by omega)]
/-- a determinant that is not nought stays so -/
theorem det_stP {Z0 : Nat → Nat → Nat} {n : Nat} (hn : n ≤ 4) (hb : bytesP Z0 n n) : ∀ c, c ≤ n → (det n (toF (stP Z0 n c).1) ≠ 0 → det n (toF Z0) ≠ 0)
  | 0, _ => fun h => h
  | c + 1, hc => by
    have ih := det_stP hn hb c (by omega)
    obtain ⟨h1, h2⟩ := stP_bytes hb c (by omega)
    cases hp : pv (stP Z0 n c).1 c (stP Z0 n c).2 (n - (stP Z0 n c).2) with
    | none => rw [stP_none hp]; exact ih
    | some p =>
      obtain ⟨g1, g2, g3⟩ := pv_some hp
      rw [stP_some hp]
      generalize (stP Z0 n c).2 = t at *
      generalize (stP Z0 n c).1 = Z at *
      have htn : t < n := by omega
      have hb1 := swp_bytes h1 (a := t) (b := p) htn (by omega)
      have hb2 := scaP_bytes (c := c) hb1 htn
      intro h
      apply ih
      intro h0
      apply h
      rw [det_congr (toF_eliP hb2 htn (show c < n by omega)), det_gst hn htn, det_congr (toF_sca hb1 htn (show c < n by omega)), det_scale htn, toF_swp, det_swap hn htn (by omega), h0, mul_zero]
end Go.Proofs.Ytjmjnodaohbpfaa.fld

/-
  Plain laws: the matrix beside the one that the program's steps leave holds what the determinants and the steps backwards answer.
-/
namespace Go.Proofs.Ytjmjnodaohbpfaa.fld
open Go.Proofs.Ytjmjnodaohbpfaa.gf Go.Proofs.Ytjmjnodaohbpfaa.mat
set_option linter.unusedVariables false
set_option linter.unusedSimpArgs false

/-- the sums over the bytes -/
def xs : Nat → (Nat → Nat) → Nat
  | 0, _ => 0
  | n + 1, f => xs n f ^^^ f n
theorem xs_lt : ∀ {n : Nat} {f : Nat → Nat}, (∀ i, i < n → f i < 256) → xs n f < 256
  | 0, _, _ => by unfold xs; omega
  | n + 1, f, h => xor_lt8 (xs_lt fun i hi => h i (by omega)) (h n (by omega))
theorem ofN_xs : ∀ {n : Nat} {f : Nat → Nat}, (∀ i, i < n → f i < 256) → ofN (xs n f) = sm n fun i => ofN (f i)
  | 0, _, _ => rfl
  | n + 1, f, h => by
    show ofN (xs n f ^^^ f n) = sm n _ + ofN (f n)
    rw [ofN_xor (xs_lt fun i hi => h i (by omega)) (h n (by omega)), ofN_xs fun i hi => h i (by omega)]
theorem xs_congr : ∀ {n : Nat} {f g : Nat → Nat}, (∀ i, i < n → f i = g i) → xs n f = xs n g
  | 0, _, _, _ => rfl
  | n + 1, f, g, h => by
    show xs n f ^^^ f n = xs n g ^^^ g n
    rw [xs_congr fun i hi => h i (by omega), h n (by omega)]
/-- the determinant over bytes -/
def mnrN (i : Nat) (M : Nat → Nat → Nat) : Nat → Nat → Nat := fun r c => M (if r < i then r else r + 1) (c + 1)
def detN : Nat → (Nat → Nat → Nat) → Nat
  | 0, _ => 1
  | n + 1, M => xs (n + 1) fun i => mul (M i 0) (detN n (mnrN i M))
theorem mnrN_bytes {n m i : Nat} {M : Nat → Nat → Nat} (h : bytesP M (n + 1) (m + 1)) : bytesP (mnrN i M) n m := fun r c hr hc => by
  unfold mnrN
  split
  · exact h _ _ (by omega) (by omega)
  · exact h _ _ (by omega) (by omega)
theorem detN_lt : ∀ (n : Nat) (M : Nat → Nat → Nat), bytesP M n n → detN n M < 256
  | 0, M, _ => by unfold detN; omega
  | n + 1, M, h => by
    unfold detN
    exact xs_lt fun i hi => mul_lt _ _ (h i 0 hi (by omega))
theorem ofN_det : ∀ (n : Nat) (M : Nat → Nat → Nat), bytesP M n n → ofN (detN n M) = det n (toF M)
  | 0, M, _ => rfl
  | n + 1, M, h => by
    unfold detN det
    rw [ofN_xs fun i hi => mul_lt _ _ (h i 0 hi (by omega))]
    refine sm_congr fun i hi => ?_
    rw [ofN_mul (h i 0 hi (by omega)) (detN_lt n _ (mnrN_bytes h)), ofN_det n _ (mnrN_bytes h)]
    rfl
/-! ### sums -/
theorem sm_split (n : Nat) (f : Nat → F) : ∀ m, sm (n + m) f = sm n f + sm m fun j => f (n + j)
  | 0 => (add_zero _).symm
  | m + 1 => by
    show sm (n + m) f + f (n + m) = _ + (sm m _ + f (n + m))
    rw [sm_split n f m, add_assoc]
theorem sm_nil {n : Nat} {f : Nat → F} (h : ∀ i, i < n → f i = 0) : sm n f = 0 := by rw [sm_congr h]; exact sm_zero n
theorem sm_one : ∀ {n : Nat} {f : Nat → F} {i : Nat}, i < n → (∀ j, j < n → j ≠ i → f j = 0) → sm n f = f i
  | 0, _, _, h, _ => absurd h (by omega)
  | n + 1, f, i, h, h0 => by
    show sm n f + f n = f i
    by_cases hi : i = n
    · rw [hi, sm_nil fun j hj => h0 j (by omega) (by omega), zero_add]
    · rw [sm_one (by omega) fun j hj h1 => h0 j (by omega) h1, h0 n (by omega) (by omega), add_zero]
/-! ### all columns have their row -/
theorem stP_le (Z0 : Nat → Nat → Nat) (n : Nat) : ∀ c d, (stP Z0 n (c + d)).2 ≤ (stP Z0 n c).2 + d
  | c, 0 => Nat.le_refl _
  | c, d + 1 => by
    have ih := stP_le Z0 n c d
    show (stP Z0 n (c + d + 1)).2 ≤ _
    cases hp : pv (stP Z0 n (c + d)).1 (c + d) (stP Z0 n (c + d)).2 (n - (stP Z0 n (c + d)).2) with
    | none => rw [stP_none hp]; omega
    | some p => rw [stP_some hp]; simp only; omega
theorem stP_le0 (Z0 : Nat → Nat → Nat) (n c : Nat) : (stP Z0 n c).2 ≤ c := by
  have := stP_le Z0 n 0 c
  rw [Nat.zero_add] at this
  have h0 : (stP Z0 n 0).2 = 0 := rfl
  omega
theorem stP_all {Z0 : Nat → Nat → Nat} {n : Nat} (h : (stP Z0 n n).2 = n) {c : Nat} (hc : c ≤ n) : (stP Z0 n c).2 = c := by
  have h1 := stP_le Z0 n c (n - c)
  rw [show c + (n - c) = n by omega, h] at h1
  have := stP_le0 Z0 n c
  omega
theorem stP_pv {Z0 : Nat → Nat → Nat} {n : Nat} (h : (stP Z0 n n).2 = n) {c : Nat} (hc : c < n) :
    ∃ p, pv (stP Z0 n c).1 c c (n - c) = some p ∧ c ≤ p ∧ p < n ∧ (stP Z0 n c).1 p c ≠ 0 ∧ stP Z0 n (c + 1) = (eliP (scaP (swp (stP Z0 n c).1 c p) c c) c c, c + 1) := by
  have e1 := stP_all h (Nat.le_of_lt hc)
  have e2 := stP_all h (show c + 1 ≤ n by omega)
  cases hp : pv (stP Z0 n c).1 c (stP Z0 n c).2 (n - (stP Z0 n c).2) with
  | none => rw [stP_none hp] at e2; omega
  | some p =>
    obtain ⟨g1, g2, g3⟩ := pv_some hp
    have e3 := stP_some hp
    rw [e1] at hp e3
    rw [e1] at g1 g2
    exact ⟨p, hp, g1, by omega, g3, e3⟩
/-- the shape: the columns that are done -/
theorem stP_shape {Z0 : Nat → Nat → Nat} {n m : Nat} (hb : bytesP Z0 n m) (hnm : n ≤ m) (h : (stP Z0 n n).2 = n) : ∀ c, c ≤ n → ∀ i k, i < n → k < c → (stP Z0 n c).1 i k = if i = k then 1 else 0
  | 0, _, _, _, _, hk => absurd hk (by omega)
  | c + 1, hc, i, k, hi, hk => by
    have ih := stP_shape hb hnm h c (by omega)
    obtain ⟨p, hp, g1, g2, g3, e⟩ := stP_pv h (show c < n by omega)
    obtain ⟨b1, _⟩ := stP_bytes hb c (by omega)
    rw [e]
    simp only
    generalize (stP Z0 n c).1 = Z at *
    have hb1 := swp_bytes b1 (a := c) (b := p) (by omega) g2
    have q0 : swp Z c p c c ≠ 0 := by unfold swp; rw [if_pos rfl]; exact g3
    have hs : ∀ j l, j < n → l < c → swp Z c p j l = if j = l then 1 else 0 := fun j l hj hl => by
      unfold swp
      split
      · rename_i h1; rw [ih p l g2 hl, if_neg (by omega), if_neg (by omega)]
      · split
        · rename_i h1 h2; rw [ih c l (by omega) hl, if_neg (by omega), if_neg (by omega)]
        · exact ih j l hj hl
    generalize swp Z c p = Y at *
    have hsc : ∀ l, l < c → scaP Y c c c l = 0 := fun l hl => by
      unfold scaP
      rw [if_pos rfl, hs c l (by omega) hl, if_neg (by omega), zero_mul]
    have hcc : scaP Y c c c c = 1 := by
      unfold scaP
      rw [if_pos rfl, mul_comm _ _ (hb1 c c (by omega) (by omega)) (divN_lt _ _), div_mul 1 _ (by omega) (hb1 c c (by omega) (by omega)) q0]
    have hne : ∀ j l, j ≠ c → scaP Y c c j l = Y j l := fun j l hj => by unfold scaP; rw [if_neg hj]
    unfold eliP
    by_cases hic : i = c
    · rw [if_pos hic, hic]
      by_cases hkc : k = c
      · rw [hkc, hcc, if_pos rfl]
      · rw [hsc k (by omega), if_neg (by omega)]
    · rw [if_neg hic, hne i c hic, hne i k hic]
      by_cases hkc : k = c
      · subst hkc
        rw [if_neg hic]
        split
        · assumption
        · rw [hcc, gf.mul_one, Nat.xor_self]
      · rw [hsc k (by omega), hs i k hi (by omega)]
        split
        · rfl
        · rw [gf.mul_zero, Nat.xor_zero]

/-! ### what is solved -/
/-- a matrix, the one beside it -/
def augN (A : Nat → Nat → Nat) (n : Nat) : Nat → Nat → Nat := fun i k => if k < n then A i k else if k = n + i then 1 else 0
theorem augN_bytes {A : Nat → Nat → Nat} {n : Nat} (h : bytesP A n n) : bytesP (augN A n) n (n + n) := fun i k hi hk => by
  unfold augN
  split
  · exact h i k hi (by assumption)
  · split <;> omega
/-- what the program leaves beside the one -/
def invN (A : Nat → Nat → Nat) (n : Nat) : Nat → Nat → Nat := fun i k => (stP (augN A n) n n).1 i (n + k)
def unN (k : Nat) : Nat → Nat := fun i => if i = k then 1 else 0
theorem invN_lt {A : Nat → Nat → Nat} {n : Nat} (h : bytesP A n n) : bytesP (invN A n) n n := fun i k hi hk => (stP_bytes (augN_bytes h) n (by omega)).1 i (n + k) hi (by omega)
/-- a full rank, beside the one too -/
theorem stP_aug {A : Nat → Nat → Nat} {n : Nat} (h : bytesP A n n) : (stP (augN A n) n n).2 = (stR A n n).2 := by
  have := (rank_same (Z0 := A) (Y0 := augN A n) (n := n) (m := n) h (fun i k hi hk => augN_bytes h i k hi (by omega)) (fun i k hi hk => by unfold augN; rw [if_pos hk]) n (Nat.le_refl _)).1
  exact this.symm
theorem one_F (b : Bool) : (1 : F) ≠ 0 := fun h => absurd (congrArg Subtype.val h) (by decide)
/-- a column of the answer is made into the one's column -/
theorem inv_sol {A : Nat → Nat → Nat} {n k : Nat} (h : bytesP A n n) (hr : (stR A n n).2 = n) (hk : k < n) : ∀ i, i < n → (sm n fun j => toF A i j * ofN (invN A n j k)) = ofN (unN k i) := by
  have hb := augN_bytes h
  have hr' : (stP (augN A n) n n).2 = n := by rw [stP_aug h]; exact hr
  have hsh := stP_shape hb (by omega) hr' n (Nat.le_refl _)
  have hkl := (kl_stP hb (fun j => if j < n then ofN (invN A n j k) else ofN (unN k (j - n))) n (by omega)).1 fun i hi => by
    unfold dt
    rw [sm_split, sm_one hi fun j hj hji => by
      show toF _ i j * _ = 0
      unfold toF
      rw [hsh i j hi hj, if_neg (Ne.symm hji), ofN_zero, zero_mul']]
    rw [sm_one hk fun j hj hjk => by
      show _ * (if n + j < n then _ else ofN (unN k (n + j - n))) = 0
      rw [if_neg (by omega), Nat.add_sub_cancel_left, unN, if_neg hjk, ofN_zero, mul_zero]]
    show toF _ i i * (if i < n then _ else _) + toF _ i (n + k) * (if n + k < n then _ else ofN (unN k (n + k - n))) = 0
    rw [if_pos hi, if_neg (by omega), Nat.add_sub_cancel_left, unN, if_pos rfl, ofN_one, mul_one']
    unfold toF
    rw [hsh i i hi hi, if_pos rfl, ofN_one, one_mul']
    exact add_self _
  intro i hi
  have := hkl i hi
  have e3 : (sm n fun j => toF (augN A n) i (n + j) * (if n + j < n then ofN (invN A n (n + j) k) else ofN (unN k (n + j - n)))) = toF (augN A n) i (n + i) * (if n + i < n then ofN (invN A n (n + i) k) else ofN (unN k (n + i - n))) := sm_one (f := fun j => toF (augN A n) i (n + j) * (if n + j < n then ofN (invN A n (n + j) k) else ofN (unN k (n + j - n)))) hi fun j hj hji => by
    show toF (augN A n) i (n + j) * (if n + j < n then ofN (invN A n (n + j) k) else ofN (unN k (n + j - n))) = 0
    unfold toF augN
    rw [if_neg (by omega), if_neg (by omega), ofN_zero, zero_mul']
  have e1 : (sm n fun j => toF (augN A n) i j * (if j < n then ofN (invN A n j k) else ofN (unN k (j - n)))) = sm n fun j => toF A i j * ofN (invN A n j k) := sm_congr fun j hj => by
    unfold toF augN
    rw [if_pos hj, if_pos hj]
  have e2 : toF (augN A n) i (n + i) * (if n + i < n then ofN (invN A n (n + i) k) else ofN (unN k (n + i - n))) = ofN (unN k i) := by
    unfold toF augN
    rw [if_neg (show ¬ n + i < n by omega), if_pos rfl, if_neg (show ¬ n + i < n by omega), ofN_one, one_mul', Nat.add_sub_cancel_left]
  unfold dt at this
  rw [sm_split] at this
  have h4 : (sm n fun j => toF (augN A n) i j * if j < n then ofN (invN A n j k) else ofN (unN k (j - n))) + (sm n fun j => toF (augN A n) i (n + j) * (if n + j < n then ofN (invN A n (n + j) k) else ofN (unN k (n + j - n)))) = 0 := this
  rw [e3, e2, e1] at h4
  exact add_eq_zero h4
/-! ### up to four rows -/
theorem det_id : ∀ (n : Nat), det n (fun i k => if i = k then 1 else 0) = 1
  | 0 => rfl
  | n + 1 => by
    unfold det
    rw [sm_one (i := 0) (by omega) fun j hj h => by
      show (if j = 0 then (1 : F) else 0) * _ = 0
      rw [if_neg h, zero_mul']]
    show (if 0 = 0 then (1 : F) else 0) * _ = 1
    rw [if_pos rfl, one_mul']
    refine Eq.trans (det_congr fun r c _ _ => ?_) (det_id n)
    unfold mnr
    rw [if_neg (by omega)]
    show (if r + 1 = c + 1 then (1 : F) else 0) = if r = c then 1 else 0
    by_cases h : r = c
    · rw [if_pos (by omega), if_pos h]
    · rw [if_neg (by omega), if_neg h]
theorem det_ne {A : Nat → Nat → Nat} {n : Nat} (hn : n ≤ 4) (h : bytesP A n n) (hr : (stR A n n).2 = n) : detN n A ≠ 0 := fun h0 => by
  have hr' : (stP A n n).2 = n := by rw [← (rank_same h h (fun _ _ _ _ => rfl) n (Nat.le_refl _)).1]; exact hr
  have hsh := stP_shape h (Nat.le_refl _) hr' n (Nat.le_refl _)
  refine det_stP hn h n (Nat.le_refl _) ?_ ?_
  · rw [det_congr (N := fun i k => if i = k then 1 else 0) fun r c hr hc => by unfold toF; rw [hsh r c hr hc]; split <;> rfl, det_id]
    exact one_F true
  · rw [← ofN_det n A h, h0]; rfl
def stcN (M : Nat → Nat → Nat) (c : Nat) (u : Nat → Nat) : Nat → Nat → Nat := fun r k => if k = c then u r else M r k
theorem stcN_bytes {A : Nat → Nat → Nat} {n i k : Nat} (h : bytesP A n n) : bytesP (stcN A i (unN k)) n n := fun r c hr hc => by
  unfold stcN unN
  split
  · split <;> omega
  · exact h r c hr hc
/-- Cramer's quotient is the answer -/
theorem cramer_inv {A : Nat → Nat → Nat} {n i k : Nat} (hn : n ≤ 4) (h : bytesP A n n) (hr : (stR A n n).2 = n) (hi : i < n) (hk : k < n) : divN (detN n (stcN A i (unN k))) (detN n A) = invN A n i k := by
  symm
  rw [← div_unique _ _ _ (invN_lt h i k hi hk) (detN_lt n _ (stcN_bytes h)) (detN_lt n _ h) (det_ne hn h hr)]
  refine ofN_inj (mul_lt _ _ (invN_lt h i k hi hk)) (detN_lt n _ (stcN_bytes h)) ?_
  rw [ofN_mul (invN_lt h i k hi hk) (detN_lt n _ h), ofN_det n _ h, ofN_det n _ (stcN_bytes h)]
  rw [← cramer hn (toF A) (fun j => ofN (invN A n j k)) hi]
  refine det_congr fun r c hr1 hc => ?_
  unfold stc
  by_cases h1 : c = i
  · rw [if_pos h1]
    show (sm n fun j => ofN (invN A n j k) * toF A r j) = _
    have := inv_sol h hr hk r hr1
    rw [sm_congr (g := fun j => toF A r j * ofN (invN A n j k)) fun j _ => mul_comm' _ _, this]
    unfold toF stcN
    rw [if_pos h1]
  · rw [if_neg h1]
    unfold toF stcN
    rw [if_neg h1]
end Go.Proofs.Ytjmjnodaohbpfaa.fld

/-
  Plain laws: the reference's steps on a matrix with a column beside it, and the steps backwards.
-/
namespace Go.Proofs.Ytjmjnodaohbpfaa.fld
open Go.Proofs.Ytjmjnodaohbpfaa.gf Go.Proofs.Ytjmjnodaohbpfaa.mat
set_option linter.unusedVariables false
set_option linter.unusedSimpArgs false

/-- a matrix, a column beside it -/
def colN (A : Nat → Nat → Nat) (n k : Nat) : Nat → Nat → Nat := fun i j => if j < n then A i j else unN k i
theorem unN_lt (k i : Nat) : unN k i < 256 := by unfold unN; split <;> omega
theorem colN_bytes {A : Nat → Nat → Nat} {n k : Nat} (h : bytesP A n n) : bytesP (colN A n k) n (n + 1) := fun i j hi hj => by
  unfold colN
  split
  · exact h i j hi (by assumption)
  · exact unN_lt _ _
theorem stR_rank {A : Nat → Nat → Nat} {n k : Nat} (h : bytesP A n n) (hr : (stR A n n).2 = n) {c : Nat} (hc : c ≤ n) : (stR (colN A n k) n c).2 = c := by
  have e1 := (rank_same (Z0 := colN A n k) (Y0 := A) (n := n) (m := n) (fun i j hi hj => colN_bytes h i j hi (by omega)) h (fun i j hi hj => by unfold colN; rw [if_pos hj]) c hc).1
  have e2 := (rank_same h h (fun _ _ _ _ => rfl) n (Nat.le_refl _)).1
  rw [e1]
  exact stP_all (by rw [← e2]; exact hr) hc
/-- the matrix ahead of column c -/
def gaN (A : Nat → Nat → Nat) (n k c : Nat) : Nat → Nat → Nat := (stR (colN A n k) n c).1
theorem gaN_bytes {A : Nat → Nat → Nat} {n k : Nat} (h : bytesP A n n) (c : Nat) : bytesP (gaN A n k c) n (n + 1) := (stR_bytes (colN_bytes h) c).1
theorem gaN_pv {A : Nat → Nat → Nat} {n k : Nat} (h : bytesP A n n) (hr : (stR A n n).2 = n) {c : Nat} (hc : c < n) :
    ∃ p, pv (gaN A n k c) c c (n - c) = some p ∧ c ≤ p ∧ p < n ∧ gaN A n k c p c ≠ 0 ∧ gaN A n k (c + 1) = eliR (swp (gaN A n k c) c p) c c := by
  have e1 := stR_rank (k := k) h hr (Nat.le_of_lt hc)
  have e2 := stR_rank (k := k) h hr (show c + 1 ≤ n by omega)
  cases hp : pv (stR (colN A n k) n c).1 c (stR (colN A n k) n c).2 (n - (stR (colN A n k) n c).2) with
  | none => rw [stR_none hp] at e2; omega
  | some p =>
    obtain ⟨g1, g2, g3⟩ := pv_some hp
    have e3 := stR_some hp
    rw [e1] at hp e3
    rw [e1] at g1 g2
    exact ⟨p, hp, g1, by omega, g3, congrArg Prod.fst e3⟩
theorem pv_before {Z : Nat → Nat → Nat} {c : Nat} : ∀ {k t p : Nat}, pv Z c t k = some p → ∀ i, t ≤ i → i < p → Z i c = 0
  | 0, _, _, h => by cases h
  | k + 1, t, p, h => fun i h1 h2 => by
    unfold pv at h
    split at h
    · by_cases e : i = t
      · rw [e]; assumption
      · exact pv_before h i (by omega) h2
    · cases h; omega
/-- the shape: what lies below the diagonal is nought -/
theorem gaN_shape {A : Nat → Nat → Nat} {n k : Nat} (h : bytesP A n n) (hr : (stR A n n).2 = n) : ∀ c, c ≤ n → (∀ i j, i < n → j < c → j < i → gaN A n k c i j = 0) ∧ ∀ j, j < c → gaN A n k c j j ≠ 0
  | 0, _ => ⟨fun _ _ _ hj _ => absurd hj (by omega), fun _ hj => absurd hj (by omega)⟩
  | c + 1, hc => by
    obtain ⟨ih1, ih2⟩ := gaN_shape (k := k) h hr c (by omega)
    obtain ⟨p, hp, g1, g2, g3, e⟩ := gaN_pv (k := k) h hr (show c < n by omega)
    have b1 := gaN_bytes (k := k) h c
    rw [e]
    generalize gaN A n k c = Z at *
    have hb1 := swp_bytes b1 (a := c) (b := p) (by omega) g2
    have q0 : swp Z c p c c ≠ 0 := by unfold swp; rw [if_pos rfl]; exact g3
    have hs : ∀ i j, i < n → j < c → j < i → swp Z c p i j = 0 := fun i j hi hj hji => by
      unfold swp
      split
      · exact ih1 p j g2 hj (by omega)
      · split
        · exact ih1 c j (by omega) hj hj
        · exact ih1 i j hi hj hji
    have hd : ∀ j, j < c → swp Z c p j j ≠ 0 := fun j hj => by
      unfold swp
      rw [if_neg (by omega), if_neg (by omega)]
      exact ih2 j hj
    generalize swp Z c p = Y at *
    refine ⟨fun i j hi hj hji => ?_, fun j hj => ?_⟩
    · unfold eliR
      by_cases hjc : j = c
      · subst hjc
        rw [if_pos (by omega), div_mul _ _ (hb1 i j hi (by omega)) (hb1 j j (by omega) (by omega)) q0, Nat.xor_self]
      · split
        · rw [hs i j hi (by omega) hji, hs c j (by omega) (by omega) (by omega), gf.mul_zero]
          rfl
        · exact hs i j hi (by omega) hji
    · unfold eliR
      rw [if_neg (by omega)]
      by_cases hjc : j = c
      · rw [hjc]; exact q0
      · exact hd j (by omega)
/-- the reference leaves the columns that are done alone -/
theorem gaN_next {A : Nat → Nat → Nat} {n k c p : Nat} (h : bytesP A n n) (hr : (stR A n n).2 = n) (hc : c < n) (hcp : c ≤ p) (hpn : p < n) {i j : Nat} (hi : i < n) (hj : j < c) :
    eliR (swp (gaN A n k c) c p) c c i j = swp (gaN A n k c) c p i j := by
  obtain ⟨ih1, _⟩ := gaN_shape (k := k) h hr c (by omega)
  unfold eliR
  split
  · rw [show swp (gaN A n k c) c p c j = 0 by unfold swp; rw [if_pos rfl]; exact ih1 p j hpn hj (by omega), gf.mul_zero, Nat.xor_zero]
  · rfl
/-- what is summed backwards -/
def bkN (U : Nat → Nat → Nat) (x : Nat → Nat) (n i d : Nat) : Nat := U i n ^^^ xs d fun j => mul (U i (i + 1 + j)) (x (i + 1 + j))
theorem bkN_lt {U : Nat → Nat → Nat} {x : Nat → Nat} {n i d : Nat} (hU : bytesP U n (n + 1)) (hi : i + 1 + d ≤ n) : bkN U x n i d < 256 :=
  xor_lt8 (hU i n (by omega) (by omega)) (xs_lt fun j hj => mul_lt _ _ (hU i _ (by omega) (by omega)))
theorem bkN_succ (U : Nat → Nat → Nat) (x : Nat → Nat) (n i d : Nat) : bkN U x n i (d + 1) = bkN U x n i d ^^^ mul (U i (i + 1 + d)) (x (i + 1 + d)) := by
  unfold bkN
  rw [Nat.xor_assoc]
  rfl
theorem bkN_congr {U : Nat → Nat → Nat} {x y : Nat → Nat} {n i d : Nat} (h : ∀ j, i < j → j < i + 1 + d → x j = y j) : bkN U x n i d = bkN U y n i d := by
  unfold bkN
  rw [xs_congr fun j hj => by rw [h (i + 1 + j) (by omega) (by omega)]]
theorem back_inv {A : Nat → Nat → Nat} {n k i : Nat} (h : bytesP A n n) (hr : (stR A n n).2 = n) (hk : k < n) (hi : i < n) :
    divN (bkN (gaN A n k n) (fun j => invN A n j k) n i (n - (i + 1))) (gaN A n k n i i) = invN A n i k := by
  have hU := gaN_bytes (k := k) h n
  obtain ⟨s1, s2⟩ := gaN_shape (k := k) h hr n (Nat.le_refl _)
  have hx : ∀ j, j < n → invN A n j k < 256 := fun j hj => invN_lt h j k hj hk
  have hkl := (kl_stR (colN_bytes (k := k) h) (fun j => if j < n then ofN (invN A n j k) else 1) n (by omega)).2 fun r hr1 => by
    show (sm (n + 1) fun j => toF (colN A n k) r j * (if j < n then ofN (invN A n j k) else 1)) = 0
    show (sm n fun j => toF (colN A n k) r j * (if j < n then ofN (invN A n j k) else 1)) + toF (colN A n k) r n * (if n < n then ofN (invN A n n k) else 1) = 0
    rw [if_neg (by omega), mul_one', sm_congr (g := fun j => toF A r j * ofN (invN A n j k)) fun j hj => by unfold toF colN; rw [if_pos hj, if_pos hj], inv_sol h hr hk r hr1]
    unfold toF colN
    rw [if_neg (by omega)]
    exact add_self _
  have h1 := hkl i hi
  change kl (n + 1) n (toF (gaN A n k n)) _ at hkl
  have h1 : (sm n fun j => toF (gaN A n k n) i j * (if j < n then ofN (invN A n j k) else 1)) + toF (gaN A n k n) i n * (if n < n then ofN (invN A n n k) else 1) = 0 := hkl i hi
  generalize gaN A n k n = U at *
  rw [if_neg (by omega), mul_one', sm_congr (g := fun j => toF U i j * ofN (invN A n j k)) fun j hj => by rw [if_pos hj]] at h1
  obtain ⟨d, hd⟩ : ∃ d, n = i + (1 + d) := ⟨n - (i + 1), by omega⟩
  have e0 : n - (i + 1) = d := by omega
  have h2 : sm n (fun j => toF U i j * ofN (invN A n j k)) = toF U i i * ofN (invN A n i k) + sm d fun j => toF U i (i + 1 + j) * ofN (invN A n (i + 1 + j) k) := by
    have q1 := sm_split i (fun j => toF U i j * ofN (invN A n j k)) (1 + d)
    rw [← hd] at q1
    have q2 := sm_split 1 (fun j => toF U i (i + j) * ofN (invN A n (i + j) k)) d
    rw [q1, q2, sm_nil fun j hj => by
      show toF U i j * _ = 0
      unfold toF
      rw [s1 i j hi (by omega) hj, ofN_zero, zero_mul'], zero_add]
    have q3 : sm 1 (fun j => toF U i (i + j) * ofN (invN A n (i + j) k)) = toF U i i * ofN (invN A n i k) := zero_add _
    rw [q3]
    congr 1
    exact sm_congr fun j _ => by rw [show i + (1 + j) = i + 1 + j by omega]
  rw [h2] at h1
  symm
  have hlt := bkN_lt (x := fun j => invN A n j k) hU (show i + 1 + d ≤ n by omega)
  rw [e0, ← div_unique _ _ _ (hx i hi) hlt (hU i i hi (by omega)) (s2 i hi)]
  refine ofN_inj (mul_lt _ _ (hx i hi)) hlt ?_
  rw [ofN_mul (hx i hi) (hU i i hi (by omega))]
  have hT : ∀ j, j < d → mul (U i (i + 1 + j)) (invN A n (i + 1 + j) k) < 256 := fun j hj => mul_lt _ _ (hU i _ hi (by omega))
  unfold bkN
  rw [ofN_xor (hU i n hi (by omega)) (xs_lt hT), ofN_xs hT, sm_congr (g := fun j => toF U i (i + 1 + j) * ofN (invN A n (i + 1 + j) k)) fun j hj => ofN_mul (hU i _ hi (by omega)) (hx _ (by omega))]
  rw [add_assoc] at h1
  rw [mul_comm']
  have h5 : ofN (U i i) * ofN (invN A n i k) = _ := add_eq_zero h1
  rw [h5, add_comm]
  rfl
end Go.Proofs.Ytjmjnodaohbpfaa.fld
