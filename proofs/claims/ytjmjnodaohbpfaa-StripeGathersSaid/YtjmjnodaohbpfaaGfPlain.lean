/-
  The field of 256 elements, no program in sight: products by the two texts' loops, tables of powers and logarithms, and what follows from them.
-/
namespace Go.Proofs.Ytjmjnodaohbpfaa.gf

/-- the loop of gf.times, what is still to come -/
def xt (a : Nat) : Nat := if 255 < a * 2 then (a * 2) ^^^ 285 else a * 2
def tmN : Nat → Nat → Nat → Nat → Nat
  | 0, _, _, o => o
  | f + 1, a, b, o => if b = 0 then o else tmN f (xt a) (b / 2) (if b % 2 = 1 then o ^^^ a else o)
/-- the two loops of the reference's mulOf -/
def mpF (a b : Nat) : Nat → Nat → Nat → Nat
  | 0, _, p => p
  | f + 1, k, p => mpF a b f (k + 1) (if b / 2 ^ k % 2 = 1 then p ^^^ (a * 2 ^ k) else p)
def rdS (k p : Nat) : Nat := if p / 2 ^ k % 2 = 1 then p ^^^ (285 * 2 ^ (k - 8)) else p
def rdF : Nat → Nat → Nat → Nat
  | 0, _, p => p
  | f + 1, k, p => rdF f (k - 1) (rdS k p)

/-- the product: bit by bit -/
def sm : Nat → Nat → Nat → Nat
  | 0, _, _ => 0
  | f + 1, a, b => (if b % 2 = 1 then a else 0) ^^^ sm f (xt a) (b / 2)
theorem sm_succ (f a b : Nat) : sm (f + 1) a b = (if b % 2 = 1 then a else 0) ^^^ sm f (xt a) (b / 2) := rfl
def mul (a b : Nat) : Nat := sm 8 a b

def tblE : Nat := 70160881166704368827218703435136616750530459438269794890424969378298545675077208731798828898087927652446353395360628748027273188182808436399538186061104243134188885576122562338679313492324190829158544377810568631194580132524405266702234305646236648896994794467054525044798919765581988418950285252905306116225263236585714808161311289784028762024137133735135393922581566890382566480334369299400480864790538739986285574563168380416343369614948461817839620668187777978661530364712890858126432457562886306102556561631759900551331094983229723298224611133722330829711659991602983068895685602467964643306841827719562658305
def tblL : Nat := 22135253156888987530748098150270024343632497605293634117281264061560962248099620766229961468867162294233796152347975563017024165690400661622462404646302566225833645086064538892198543335321514950294300187779610338557442029018619797274438901674641748676613670242915365385819254959901651105240253464034662486586186382979728982817772067067513442677601938078891989292316012868233806586592927239821351197800766822366321181463280924672822998103315976779850880337712374790938628529953751181886374687897611504386983350015558142994211516619836411558782076806704747441947939324473761869443721989389604670425385080942269787340800
def expT (i : Nat) : Nat := tblE / 2 ^ (8 * i) % 256
def logT (a : Nat) : Nat := tblL / 2 ^ (8 * a) % 256

def upTo (n : Nat) (p : Nat → Bool) : Bool := match n with
  | 0 => true
  | n + 1 => p n && upTo n p
theorem upTo_out : ∀ {n : Nat} {p : Nat → Bool}, upTo n p = true → ∀ i, i < n → p i = true
  | 0, _, _, i, hi => absurd hi (Nat.not_lt_zero i)
  | n + 1, p, h, i, hi => by
    simp only [upTo, Bool.and_eq_true] at h
    rcases Nat.lt_succ_iff_lt_or_eq.1 hi with h1 | h1
    · exact upTo_out h.2 i h1
    · rw [h1]; exact h.1

theorem xor_lt {a b n : Nat} (ha : a < 2 ^ n) (hb : b < 2 ^ n) : a ^^^ b < 2 ^ n := Nat.xor_lt_two_pow ha hb
theorem xor_lt8 {a b : Nat} (ha : a < 256) (hb : b < 256) : a ^^^ b < 256 := xor_lt (n := 8) ha hb
theorem xor4 (a b c d : Nat) : (a ^^^ b) ^^^ (c ^^^ d) = (a ^^^ c) ^^^ (b ^^^ d) := by ac_rfl

/-! ### xt -/
theorem xt_form (a : Nat) (h : a < 256) : xt a = (a * 2) ^^^ (if a.testBit 7 then 285 else 0) := by
  unfold xt
  by_cases h1 : 255 < a * 2
  · rw [if_pos h1, if_pos]
    rw [Nat.testBit_eq_decide_div_mod_eq]
    simp; omega
  · rw [if_neg h1, if_neg, Nat.xor_zero]
    rw [Nat.testBit_eq_decide_div_mod_eq]
    simp; omega
theorem chk_xt : (upTo 256 fun a => decide (xt a < 256)) = true := by decide +kernel
theorem xt_lt (a : Nat) (h : a < 256) : xt a < 256 := by simpa using upTo_out chk_xt a h
theorem mul2_xor (a b : Nat) : (a ^^^ b) * 2 = (a * 2) ^^^ (b * 2) := by
  have h := Nat.shiftLeft_xor_distrib (a := a) (b := b) (i := 1)
  simpa [Nat.shiftLeft_eq] using h
theorem xt_xor (a b : Nat) (ha : a < 256) (hb : b < 256) : xt (a ^^^ b) = xt a ^^^ xt b := by
  rw [xt_form _ (xor_lt8 ha hb), xt_form _ ha, xt_form _ hb, mul2_xor, xor4, Nat.testBit_xor]
  cases a.testBit 7 <;> cases b.testBit 7 <;> simp

/-! ### sm -/
theorem sm_lt : ∀ (f a b : Nat), a < 256 → sm f a b < 256
  | 0, _, _, _ => by simp [sm]
  | f + 1, a, b, ha => by
    unfold sm
    refine xor_lt8 ?_ (sm_lt f _ _ (xt_lt a ha))
    split <;> omega
theorem sm_zero_right : ∀ (f a : Nat), sm f a 0 = 0
  | 0, _ => rfl
  | f + 1, a => by unfold sm; simp [sm_zero_right f]
theorem sm_zero_left : ∀ (f b : Nat), sm f 0 b = 0
  | 0, _ => rfl
  | f + 1, b => by
    unfold sm
    have : xt 0 = 0 := by decide
    rw [this, sm_zero_left f]
    simp
theorem sm_xor_left : ∀ (f a a' b : Nat), a < 256 → a' < 256 → sm f (a ^^^ a') b = sm f a b ^^^ sm f a' b
  | 0, _, _, _, _, _ => by simp [sm]
  | f + 1, a, a', b, ha, ha' => by
    unfold sm
    rw [xt_xor _ _ ha ha', sm_xor_left f _ _ _ (xt_lt _ ha) (xt_lt _ ha'), xor4]
    split <;> simp
theorem div2_xor (a b : Nat) : (a ^^^ b) / 2 = a / 2 ^^^ b / 2 := by
  have h := Nat.shiftRight_xor_distrib (a := a) (b := b) (i := 1)
  simpa [Nat.shiftRight_eq_div_pow] using h
theorem mod2_xor (a b : Nat) : (a ^^^ b) % 2 = 1 ↔ ((a % 2 = 1 ∧ b % 2 = 0) ∨ (a % 2 = 0 ∧ b % 2 = 1)) := by
  have h := Nat.testBit_xor a b 0
  rw [Nat.testBit_zero, Nat.testBit_zero, Nat.testBit_zero] at h
  have h1 := Nat.mod_two_eq_zero_or_one a
  have h2 := Nat.mod_two_eq_zero_or_one b
  rcases h1 with h1 | h1 <;> rcases h2 with h2 | h2 <;> simp [h1, h2] at h ⊢ <;> omega
theorem sm_xor_right : ∀ (f a b b' : Nat), sm f a (b ^^^ b') = sm f a b ^^^ sm f a b'
  | 0, _, _, _ => by simp [sm]
  | f + 1, a, b, b' => by
    unfold sm
    rw [div2_xor, sm_xor_right f, xor4]
    congr 1
    have h1 := Nat.mod_two_eq_zero_or_one b
    have h2 := Nat.mod_two_eq_zero_or_one b'
    have h3 := mod2_xor b b'
    rcases h1 with h1 | h1 <;> rcases h2 with h2 | h2 <;> simp [h1, h2] at h3 ⊢ <;> simp [h3]
theorem sm_xt : ∀ (f a b : Nat), a < 256 → sm f (xt a) b = xt (sm f a b)
  | 0, _, _, _ => by simp [sm]; decide
  | f + 1, a, b, ha => by
    unfold sm
    have h0 : xt 0 = 0 := by decide
    rw [sm_xt f _ _ (xt_lt a ha), xt_xor _ _ (by split <;> omega) (sm_lt f _ _ (xt_lt a ha))]
    split
    · rw [sm_xt f _ _ ha]
    · rw [h0, sm_xt f _ _ ha]

/-! ### the two texts' products -/
theorem tmN_eq : ∀ (f a b o : Nat), tmN f a b o = o ^^^ sm f a b
  | 0, _, _, _ => by simp [tmN, sm]
  | f + 1, a, b, o => by
    unfold tmN
    split
    · rename_i h; subst h; rw [sm_zero_right]; simp
    · rw [tmN_eq f, sm_succ]
      split
      · rw [Nat.xor_assoc]
      · rw [Nat.zero_xor]

def mps (a b : Nat) : Nat → Nat → Nat
  | 0, _ => 0
  | f + 1, k => (if b / 2 ^ k % 2 = 1 then a * 2 ^ k else 0) ^^^ mps a b f (k + 1)
theorem mpF_eq (a b : Nat) : ∀ (f k p : Nat), mpF a b f k p = p ^^^ mps a b f k
  | 0, _, p => by simp [mpF, mps]
  | f + 1, k, p => by
    unfold mpF mps
    rw [mpF_eq a b f]
    split
    · rw [Nat.xor_assoc]
    · rw [Nat.zero_xor]
theorem rdS_form (k p : Nat) : rdS k p = p ^^^ (if p.testBit k then 285 * 2 ^ (k - 8) else 0) := by
  unfold rdS
  rw [Nat.testBit_eq_decide_div_mod_eq]
  split <;> simp [*]
theorem rdS_xor (k p q : Nat) : rdS k (p ^^^ q) = rdS k p ^^^ rdS k q := by
  rw [rdS_form, rdS_form, rdS_form, xor4, Nat.testBit_xor]
  cases p.testBit k <;> cases q.testBit k <;> simp
theorem rdF_xor : ∀ (f k p q : Nat), rdF f k (p ^^^ q) = rdF f k p ^^^ rdF f k q
  | 0, _, _, _ => rfl
  | f + 1, k, p, q => by
    unfold rdF
    rw [rdS_xor, rdF_xor f]
def xts : Nat → Nat → Nat
  | 0, a => a
  | k + 1, a => xt (xts k a)
theorem xts_in : ∀ (k a : Nat), xts k (xt a) = xt (xts k a)
  | 0, _ => rfl
  | k + 1, a => by unfold xts; rw [xts_in k]
theorem chk_red : (upTo 256 fun a => upTo 8 fun k => rdF 7 14 (a * 2 ^ k) == xts k a) = true := by decide +kernel
theorem rdF_zero : rdF 7 14 0 = 0 := by decide
theorem rd_mps (a b : Nat) (ha : a < 256) : ∀ (f k : Nat), f + k ≤ 8 → rdF 7 14 (mps a b f k) = sm f (xts k a) (b / 2 ^ k)
  | 0, _, _ => rdF_zero
  | f + 1, k, h => by
    unfold mps sm
    have h1 : rdF 7 14 (a * 2 ^ k) = xts k a := by simpa using upTo_out (upTo_out chk_red a ha) k (by omega)
    rw [rdF_xor, rd_mps a b ha f (k + 1) (by omega), Nat.div_div_eq_div_mul, ← Nat.pow_succ]
    congr 1
    split
    · exact h1
    · exact rdF_zero
/-- the reference's product is the program's -/
theorem ref_mul (a b : Nat) (ha : a < 256) : rdF 7 14 (mpF a b 8 0 0) = mul a b := by
  rw [mpF_eq, Nat.zero_xor, rd_mps a b ha 8 0 (by omega)]
  simp [xts, mul]
theorem mul_lt (a b : Nat) (ha : a < 256) : mul a b < 256 := sm_lt 8 a b ha

/-! ### the field -/
theorem mul_zero (a : Nat) : mul a 0 = 0 := sm_zero_right 8 a
theorem zero_mul (a : Nat) : mul 0 a = 0 := sm_zero_left 8 a
theorem mul_one (a : Nat) : mul a 1 = a := by
  show sm 8 a 1 = a
  unfold sm
  rw [show 1 / 2 = 0 from rfl, sm_zero_right]
  simp
theorem mul_xor (a b c : Nat) : mul a (b ^^^ c) = mul a b ^^^ mul a c := sm_xor_right 8 a b c
theorem xor_mul (a b c : Nat) (ha : a < 256) (hb : b < 256) : mul (a ^^^ b) c = mul a c ^^^ mul b c := sm_xor_left 8 a b c ha hb
theorem xt_mul (a b : Nat) (ha : a < 256) : mul (xt a) b = xt (mul a b) := sm_xt 8 a b ha
theorem sm_more : ∀ (f a b : Nat), b < 2 ^ f → sm (f + 1) a b = sm f a b
  | 0, a, b, h => by
    have : b = 0 := by omega
    subst this
    rw [sm_zero_right, sm_zero_right]
  | f + 1, a, b, h => by
    have h2 : b / 2 < 2 ^ f := by rw [Nat.pow_succ] at h; omega
    rw [sm_succ (f + 1) a b, sm_succ f a b, sm_more f _ _ h2]
theorem chk_top : (upTo 256 fun a => mul a 29 == xt (mul a 128)) = true := by decide +kernel
theorem mul_xt (a b : Nat) (ha : a < 256) (hb : b < 256) : mul a (xt b) = xt (mul a b) := by
  have low : ∀ c, c < 128 → mul a (xt c) = xt (mul a c) := by
    intro c hc
    have e : xt c = c * 2 := by unfold xt; rw [if_neg (by omega)]
    rw [e]
    show sm 8 a (c * 2) = xt (sm 8 a c)
    rw [sm_more 7 a c hc, sm_succ]
    rw [if_neg (by omega), Nat.zero_xor, show c * 2 / 2 = c from by omega, sm_xt 7 _ _ ha]
  by_cases h : b < 128
  · exact low b h
  · have e : b = (b - 128) ^^^ 128 := by
      have h1 := Nat.xor_comm (b - 128) 128
      have h2 : (b - 128) ^^^ 128 = (b - 128) + 128 := by
        have := Nat.two_pow_add_eq_or_of_lt (i := 7) (b := b - 128) (by omega) 1
        have hx : ∀ x : Fin 128, x.val ^^^ 128 = x.val + 128 := by decide +kernel
        exact hx ⟨b - 128, by omega⟩
      omega
    have ht : xt 128 = 29 := by decide
    have hm : mul a 29 = xt (mul a 128) := by simpa using upTo_out chk_top a ha
    rw [e, xt_xor _ _ (by omega) (by omega), mul_xor, mul_xor, low _ (by omega), ht, hm, xt_xor _ _ (mul_lt _ _ ha) (mul_lt _ _ ha)]

/-! ### powers of 2 and logarithms -/
theorem chk_log : (upTo 256 fun a => a == 0 || (decide (logT a < 255) && expT (logT a) == a)) = true := by decide +kernel
theorem chk_exp : (upTo 255 fun i => decide (expT i < 256) && (expT i != 0) && (logT (expT i) == i) && (xt (expT i) == expT ((i + 1) % 255))) = true := by decide +kernel
theorem exp_facts (i : Nat) (h : i < 255) : expT i < 256 ∧ expT i ≠ 0 ∧ logT (expT i) = i ∧ xt (expT i) = expT ((i + 1) % 255) := by
  have := upTo_out chk_exp i h
  simp only [Bool.and_eq_true, decide_eq_true_eq, bne_iff_ne, ne_eq, beq_iff_eq] at this
  exact ⟨this.1.1.1, this.1.1.2, this.1.2, this.2⟩
theorem log_facts (a : Nat) (h : a < 256) (h0 : a ≠ 0) : logT a < 255 ∧ expT (logT a) = a := by
  have := upTo_out chk_log a h
  simpa [h0] using this
theorem exp_zero : expT 0 = 1 := by decide +kernel
theorem exp_one : expT 1 = 2 := by decide +kernel
theorem mul_two (a : Nat) (ha : a < 256) : mul a 2 = xt a := by
  have h : mul a (xt 1) = xt (mul a 1) := mul_xt a 1 ha (by omega)
  rw [mul_one] at h
  exact h
theorem mul_exp (a : Nat) (ha : a < 255) : ∀ j, j < 255 → mul (expT a) (expT j) = expT ((a + j) % 255)
  | 0, _ => by rw [exp_zero, mul_one, Nat.add_zero, Nat.mod_eq_of_lt ha]
  | j + 1, h => by
    have h1 := exp_facts j (by omega)
    have h2 := mul_exp a ha j (by omega)
    have h3 := exp_facts a ha
    rw [Nat.mod_eq_of_lt h] at h1
    rw [← h1.2.2.2, mul_xt _ _ h3.1 h1.1, h2, (exp_facts ((a + j) % 255) (Nat.mod_lt _ (by omega))).2.2.2]
    congr 1
    omega
theorem mul_log (a b : Nat) (ha : a < 256) (hb : b < 256) (a0 : a ≠ 0) (b0 : b ≠ 0) : mul a b = expT ((logT a + logT b) % 255) := by
  have h1 := log_facts a ha a0
  have h2 := log_facts b hb b0
  have := mul_exp _ h1.1 _ h2.1
  rw [h1.2, h2.2] at this
  exact this
theorem mul_comm (a b : Nat) (ha : a < 256) (hb : b < 256) : mul a b = mul b a := by
  by_cases a0 : a = 0
  · subst a0; rw [zero_mul, mul_zero]
  · by_cases b0 : b = 0
    · subst b0; rw [zero_mul, mul_zero]
    · rw [mul_log a b ha hb a0 b0, mul_log b a hb ha b0 a0, Nat.add_comm]
theorem mul_ne (a b : Nat) (ha : a < 256) (hb : b < 256) (a0 : a ≠ 0) (b0 : b ≠ 0) : mul a b ≠ 0 := by
  rw [mul_log a b ha hb a0 b0]
  exact (exp_facts _ (Nat.mod_lt _ (by omega))).2.1
theorem log_mul (a b : Nat) (ha : a < 256) (hb : b < 256) (a0 : a ≠ 0) (b0 : b ≠ 0) : logT (mul a b) = (logT a + logT b) % 255 := by
  rw [mul_log a b ha hb a0 b0]
  exact (exp_facts _ (Nat.mod_lt _ (by omega))).2.2.1
theorem mul_assoc (a b c : Nat) (ha : a < 256) (hb : b < 256) (hc : c < 256) : mul (mul a b) c = mul a (mul b c) := by
  by_cases a0 : a = 0
  · subst a0; simp only [zero_mul]
  · by_cases b0 : b = 0
    · subst b0; simp only [zero_mul, mul_zero]
    · by_cases c0 : c = 0
      · subst c0; simp only [mul_zero]
      · rw [mul_log _ c (mul_lt _ _ ha) hc (mul_ne a b ha hb a0 b0) c0, mul_log a _ ha (mul_lt _ _ hb) a0 (mul_ne b c hb hc b0 c0), log_mul a b ha hb a0 b0, log_mul b c hb hc b0 c0]
        congr 1
        omega

/-! ### powers, quotients -/
def pw (a : Nat) : Nat → Nat
  | 0 => 1
  | n + 1 => mul (pw a n) a
theorem pw_lt (a : Nat) (ha : a < 256) : ∀ n, pw a n < 256
  | 0 => by simp [pw]
  | n + 1 => mul_lt _ _ (pw_lt a ha n)
theorem one_mul (a : Nat) (ha : a < 256) : mul 1 a = a := by rw [mul_comm 1 a (by omega) ha, mul_one]
theorem pw_add (a : Nat) (ha : a < 256) (m : Nat) : ∀ n, pw a (m + n) = mul (pw a m) (pw a n)
  | 0 => by rw [Nat.add_zero, pw, mul_one]
  | n + 1 => by
    rw [← Nat.add_assoc, pw, pw_add a ha m n, pw, mul_assoc _ _ _ (pw_lt a ha m) (pw_lt a ha n) ha]
theorem pw_sq (a : Nat) (ha : a < 256) : ∀ n, pw (mul a a) n = pw a (2 * n)
  | 0 => rfl
  | n + 1 => by
    rw [pw, pw_sq a ha n, show 2 * (n + 1) = 2 * n + 1 + 1 from by omega, pw, pw, mul_assoc _ _ _ (pw_lt a ha _) ha ha]
theorem pw_half (a o n : Nat) (ha : a < 256) (ho : o < 256) : mul (if n % 2 = 1 then mul o a else o) (pw (mul a a) (n / 2)) = mul o (pw a n) := by
  rw [pw_sq a ha]
  split
  · rename_i h
    have e : n = 1 + 2 * (n / 2) := by omega
    conv => rhs; rw [e, pw_add a ha]
    rw [show pw a 1 = a from one_mul a ha, mul_assoc _ _ _ ho ha (pw_lt a ha _)]
  · rename_i h
    have e : n = 2 * (n / 2) := by omega
    conv => rhs; rw [e]
theorem pw_zero : ∀ n, n ≠ 0 → pw 0 n = 0
  | 0, h => absurd rfl h
  | n + 1, _ => by rw [pw, mul_zero]
theorem pw_log (a : Nat) (ha : a < 256) (a0 : a ≠ 0) : ∀ n, pw a n = expT (logT a * n % 255)
  | 0 => by rw [pw, Nat.mul_zero]; exact exp_zero.symm
  | n + 1 => by
    have h1 := log_facts a ha a0
    have h2 := exp_facts (logT a * n % 255) (Nat.mod_lt _ (by omega))
    rw [pw, pw_log a ha a0 n, mul_log _ a h2.1 ha h2.2.1 a0, h2.2.2.1, Nat.mul_succ]
    congr 1
    omega
theorem pw_two (n : Nat) : pw 2 n = expT (n % 255) := by
  have h := pw_log 2 (by omega) (by omega) n
  have hl : logT 2 = 1 := by decide +kernel
  rw [hl, Nat.one_mul] at h
  exact h
def divN (a b : Nat) : Nat := if a = 0 then 0 else expT ((logT a + 255 - logT b) % 255)
theorem divN_lt (a b : Nat) : divN a b < 256 := by
  unfold divN
  split
  · omega
  · exact (exp_facts _ (Nat.mod_lt _ (by omega))).1
theorem div_mul (a b : Nat) (ha : a < 256) (hb : b < 256) (b0 : b ≠ 0) : mul (divN a b) b = a := by
  unfold divN
  split
  · rename_i h; rw [zero_mul, h]
  · rename_i h
    have h1 := log_facts a ha h
    have h2 := log_facts b hb b0
    have h3 := exp_facts ((logT a + 255 - logT b) % 255) (Nat.mod_lt _ (by omega))
    rw [mul_log _ b h3.1 hb h3.2.1 b0, h3.2.2.1]
    have e : ((logT a + 255 - logT b) % 255 + logT b) % 255 = logT a := by omega
    rw [e, h1.2]
theorem mul_cancel (x y b : Nat) (hx : x < 256) (hy : y < 256) (hb : b < 256) (b0 : b ≠ 0) (h : mul x b = mul y b) : x = y := by
  have h1 : mul (x ^^^ y) b = 0 := by rw [xor_mul _ _ _ hx hy, h, Nat.xor_self]
  have h2 : x ^^^ y = 0 := by
    by_cases hz : x ^^^ y = 0
    · exact hz
    · exact absurd h1 (mul_ne _ _ (xor_lt8 hx hy) hb hz b0)
  have h3 : (x ^^^ y) ^^^ y = y := by rw [h2, Nat.zero_xor]
  rw [Nat.xor_assoc, Nat.xor_self, Nat.xor_zero] at h3
  exact h3
theorem div_unique (x a b : Nat) (hx : x < 256) (ha : a < 256) (hb : b < 256) (b0 : b ≠ 0) : mul x b = a ↔ x = divN a b := by
  constructor
  · intro h
    exact mul_cancel x _ b hx (divN_lt a b) hb b0 (by rw [h, div_mul a b ha hb b0])
  · rintro rfl
    exact div_mul a b ha hb b0
/-- the inverse by the power 254 -/
theorem inv_pow (b : Nat) (hb : b < 256) (b0 : b ≠ 0) : mul (pw b 254) b = 1 := by
  have h : pw b 255 = 1 := by
    rw [pw_log b hb b0, Nat.mul_mod_left]
    exact exp_zero
  exact h
theorem div_pow (a b : Nat) (ha : a < 256) (hb : b < 256) (b0 : b ≠ 0) : mul a (pw b 254) = divN a b := by
  refine (div_unique _ a b (mul_lt _ _ ha) ha hb b0).1 ?_
  rw [mul_assoc _ _ _ ha (pw_lt b hb _) hb, inv_pow b hb b0, mul_one]
theorem log_first (a n : Nat) (ha : a < 256) (a0 : a ≠ 0) (hn : n < 255) : expT n = a ↔ n = logT a := by
  constructor
  · intro h; rw [← h, (exp_facts n hn).2.2.1]
  · rintro rfl; exact (log_facts a ha a0).2
theorem or_split : ∀ (n a b : Nat), a < 2 ^ n → b < 2 ^ n → (a ||| b) = (a ^^^ b) + (a &&& b)
  | 0, a, b, ha, hb => by
    obtain rfl : a = 0 := by omega
    obtain rfl : b = 0 := by omega
    rfl
  | n + 1, a, b, ha, hb => by
    rw [Nat.pow_succ] at ha hb
    have ih := or_split n (a / 2) (b / 2) (by omega) (by omega)
    have e1 : (a ||| b) / 2 = a / 2 ||| b / 2 := by
      have h := Nat.shiftRight_or_distrib (a := a) (b := b) (i := 1)
      simpa [Nat.shiftRight_eq_div_pow] using h
    have e2 : (a &&& b) / 2 = a / 2 &&& b / 2 := by
      have h := Nat.shiftRight_and_distrib (a := a) (b := b) (i := 1)
      simpa [Nat.shiftRight_eq_div_pow] using h
    have e3 := div2_xor a b
    have t0 := Nat.testBit_or a b 0
    have t1 := Nat.testBit_and a b 0
    have t2 := Nat.testBit_xor a b 0
    rw [Nat.testBit_zero, Nat.testBit_zero, Nat.testBit_zero] at t0 t1 t2
    have m : (a ||| b) % 2 = (a ^^^ b) % 2 + (a &&& b) % 2 := by
      have h1 := Nat.mod_two_eq_zero_or_one a
      have h2 := Nat.mod_two_eq_zero_or_one b
      have h3 := Nat.mod_two_eq_zero_or_one (a ||| b)
      have h4 := Nat.mod_two_eq_zero_or_one (a &&& b)
      have h5 := Nat.mod_two_eq_zero_or_one (a ^^^ b)
      have u0 : (a ||| b) % 2 = 1 ↔ (a % 2 = 1 ∨ b % 2 = 1) := decide_eq_decide.1 (by rw [t0, Bool.decide_or])
      have u1 : (a &&& b) % 2 = 1 ↔ (a % 2 = 1 ∧ b % 2 = 1) := decide_eq_decide.1 (by rw [t1, Bool.decide_and])
      have u2 := mod2_xor a b
      clear e1 e2 e3 ih t0 t1 t2
      generalize (a ||| b) % 2 = x at *
      generalize (a &&& b) % 2 = y at *
      generalize (a ^^^ b) % 2 = z at *
      omega
    omega
theorem or_sub_and (a b : Nat) (ha : a < 256) (hb : b < 256) : (a ||| b) - (a &&& b) = a ^^^ b := by
  have := or_split 8 a b ha hb
  omega
theorem tm_mul (a b : Nat) : tmN 8 a b 0 = mul a b := by rw [tmN_eq, Nat.zero_xor]; rfl
end Go.Proofs.Ytjmjnodaohbpfaa.gf
