/-
  Contract of the reference's StripeLay.
-/
import Derived.Test.YtjmjnodaohbpfaaStripeLay
import Derived.Test.YtjmjnodaohbpfaaZeros
import Derived.Deep.AppendLies
namespace Go.Proofs.Ytjmjnodaohbpfaa.stripe
open Go.ChangeShapes Go.WideShapes Go.ChangeAt Go.RowKit Go.Proofs.Ytjmjnodaohbpfaa.kit Go.Proofs.Ytjmjnodaohbpfaa.geom Go.Proofs.Ytjmjnodaohbpfaa.par Go.Deep
set_option linter.unusedVariables false
set_option maxRecDepth 100000

def rowsV (G Lf C : Nat → Nat) (k : Nat) : List Value := (List.range k).map fun i => .slice (some ⟨G i, 0, none⟩) (Lf i) (C i)
theorem rowsV_succ (G Lf C : Nat → Nat) (k g c : Nat) : rowsV (fun i => if i = k then g else G i) Lf (fun i => if i = k then c else C i) (k + 1) = rowsV G Lf C k ++ [.slice (some ⟨g, 0, none⟩) (Lf k) c] := by
  unfold rowsV
  rw [List.range_succ, List.map_append]
  congr 1
  · apply List.map_congr_left
    intro i hi
    have : i ≠ k := by have := List.mem_range.1 hi; omega
    simp [this]
  · simp
structure LV (w0 w : World) (k : Nat) (G Lf C : Nat → Nat) (F : Nat → Nat → Nat) (s : Value) : Prop where
  own : w.ownsRow w0.heap.size 32 1 s k (rowsV G Lf C k)
  row : ∀ i, i < k → RowK 5 .u8 w (G i) (Lf i) (F i)
  cap : ∀ i, i < k → Lf i ≤ C i ∧ C i ≤ maxLen
section
variable {w0 w w' w'' : World} {k : Nat} {G Lf C : Nat → Nat} {F : Nat → Nat → Nat} {s : Value}
theorem LV.nil (w0 w : World) (G Lf C : Nat → Nat) (F : Nat → Nat → Nat) : LV w0 w 0 G Lf C F (.slice none 0 0) := ⟨World.ownsRow_nil _ _ _ _, fun i hi => absurd hi (Nat.not_lt_zero i), fun i hi => absurd hi (Nat.not_lt_zero i)⟩
theorem LV.new (h : LV w0 w k G Lf C F s) (hn : New w w') : LV w0 w' k G Lf C F s := ⟨own_new h.own hn, fun i hi => (h.row i hi).new hn, h.cap⟩
/-- another list grows -/
theorem LV.far (h : LV w0 w k G Lf C F s) {base n : Nat} {xs : List Value} {t : Value} (ho : w.ownsRow base 32 1 t n xs) (hg : w.grownBy w' t.ownBlock) (hne : s.ownBlock = none ∨ s.ownBlock ≠ t.ownBlock) : LV w0 w' k G Lf C F s :=
  ⟨h.own.kept hg hne, fun i hi => (h.row i hi).grown hg ((h.row i hi).ne_own ho (by decide)), h.cap⟩
/-- a row more -/
theorem LV.more (h : LV w0 w k G Lf C F s) {g c : Nat} {s2 : Value} {o : Obj} (hr : RowK 5 .u8 w g (Lf k) (F k)) (hc : Lf k ≤ c ∧ c ≤ maxLen)
    (hown : w''.ownsRow w0.heap.size 32 1 s2 (k + 1) (rowsV G Lf C k ++ [.slice (some ⟨g, 0, none⟩) (Lf k) c])) (hgr : (w.alloc o).grownBy w'' s.ownBlock) :
    LV w0 w'' (k + 1) (fun i => if i = k then g else G i) Lf (fun i => if i = k then c else C i) F s2 := by
  have ho1 := h.own.alloc o
  have hk : ∀ (g' m : Nat) (f : Nat → Nat), RowK 5 .u8 w g' m f → RowK 5 .u8 w'' g' m f := fun g' m f hr' => (hr'.new ((New.refl _).alloc o)).grown hgr ((hr'.new ((New.refl _).alloc o)).ne_own ho1 (by decide))
  refine ⟨by rw [rowsV_succ]; exact hown, fun i hi => ?_, fun i hi => ?_⟩
  · by_cases e : i = k
    · subst e
      simp only [if_true]
      exact hk _ _ _ hr
    · simp only [if_neg e]
      exact hk _ _ _ (h.row i (by omega))
  · by_cases e : i = k
    · subst e
      simp only [if_true]
      exact hc
    · simp only [if_neg e]
      exact h.cap i (by omega)
theorem LV.rdM (h : LV w0 w k G Lf C F s) : ∃ A c, s = .slice A k c ∧ RdM .u8 w A k (fun i => some ⟨G i, 0, none⟩) Lf C (fun i j => (F i j : Nat)) := by
  obtain ⟨A, c, rfl, h1, h2, h3, h4⟩ := own_open h.own
  refine ⟨A, c, rfl, Nat.le_trans h1 h2, fun h0 => ?_, fun i hi => ⟨(h.row i hi).rdI (Nat.le_trans (h.cap i hi).1 (h.cap i hi).2), (h.cap i hi).1, (h.cap i hi).2⟩⟩
  obtain ⟨g, rfl, _, hg⟩ := h3 h0
  refine ⟨g, 0, rfl, hg, fun i hi => ?_⟩
  have := h4 g rfl i (.slice (some ⟨G i, 0, none⟩) (Lf i) (C i)) (by simp [rowsV, hi])
  simpa using this
end
/-- another type's own row is another block -/
theorem own_ne_own {w : World} {b1 b2 e1 e2 z1 z2 n1 n2 : Nat} {v1 v2 : Value} {x1 x2 : List Value} (h1 : w.ownsRow b1 e1 z1 v1 n1 x1) (h2 : w.ownsRow b2 e2 z2 v2 n2 x2) (hne : e1 ≠ e2) : v1.ownBlock = none ∨ v1.ownBlock ≠ v2.ownBlock := by
  rcases h1.2 with ⟨rfl, _⟩ | ⟨g1, c1, cur1, rfl, _, hg1, _⟩
  · left; rfl
  · right
    rcases h2.2 with ⟨rfl, _⟩ | ⟨g2, c2, cur2, rfl, _, hg2, _⟩
    · intro he; cases he
    · intro he
      have : g1 = g2 := by simpa [Value.ownBlock] using he
      subst this
      rw [hg1] at hg2
      injection hg2 with hg2
      injection hg2 with _ hg2 _
      exact hne hg2
theorem slice_own' {w : World} {base : Nat} {e : TypeId} {size : Nat} {v : Value} {n : Nat} {xs : List Value} (h : w.ownsRow base e size v n xs) : ∃ A c, v = .slice A n c ∧ n ≤ c ∧ c ≤ maxLen ∧ (0 < n → ∃ g, A = some ⟨g, 0, none⟩ ∧ base ≤ g) := by
  obtain ⟨A, c, hv, h2, h3, h1, _⟩ := own_open h
  exact ⟨A, c, hv, h2, h3, fun h => (h1 h).elim fun g hg => ⟨g, hg.1, hg.2.1⟩⟩
theorem numL_zeros (X : Nat → Nat) (len m : Nat) : numL .u8 X len ++ List.replicate m (.int .u8 0) = numL .u8 (fullX X len) (len + m) := by
  unfold numL
  rw [List.range_add, List.map_append, List.map_map]
  congr 1
  · apply List.map_congr_left
    intro i hi
    have := List.mem_range.1 hi
    unfold fullX
    rw [if_pos this]
  · apply List.ext_getElem
    · simp
    · intro i h1 h2
      simp [fullX]
      rw [if_neg (by omega)]
      rfl
theorem blk_ne_own {w : World} {a : Nat} {t e : TypeId} {cs : Array Value} {base z n : Nat} {v : Value} {xs : List Value} (h : Blk w a t cs) (h2 : w.ownsRow base e z v n xs) (hne : e ≠ t) : v.ownBlock ≠ some a := by
  intro he
  rcases h2.2 with ⟨rfl, _⟩ | ⟨g2, c2, cur2, rfl, _, hg2, _⟩
  · cases he
  · have : g2 = a := by simpa [Value.ownBlock] using he
    subst this
    unfold Blk at h
    rw [h] at hg2
    injection hg2 with hg2
    injection hg2 with _ hg2 _
    exact hne hg2.symm
theorem StripeLay_len (d p a : Int) (A : Option Addr) (n c : Nat) (w : World) (hn : n ≤ maxLen) (h : ¬ (1 ≤ n ∧ n ≤ 4096)) :
    Calls Try.prog 17 #[.int .i64 d, .int .i64 p, .int .i64 a, .slice A n c] w fun e w' => e = .returned (.tuple #[.slice none 0 0, .int .i64 1]) ∧ New w w' := by
  unfold maxLen at hn
  by_cases h1 : n < 1
  · have h2 : (n : Int) < 1 := by omega
    clear h h1
    go_enter Try.func17, Try.ntmps17
    go_wp2
    go_ret2
    exact ⟨rfl, New.refl _⟩
  · have h2 : ¬ (n : Int) < 1 := by omega
    have h3 : (4096 : Int) < (n : Int) := by omega
    clear h h1
    go_enter Try.func17, Try.ntmps17
    go_wp2
    go_ret2
    exact ⟨rfl, New.refl _⟩
theorem StripeLay_geom (d p a : Int) (A : Option Addr) (n c : Nat) (w : World) (h : 1 ≤ n ∧ n ≤ 4096) (hg : ¬ (mayP d p ∧ cntP ((n + 127) / 128 : Nat) ∧ adrP a)) :
    Calls Try.prog 17 #[.int .i64 d, .int .i64 p, .int .i64 a, .slice A n c] w fun e w' => e = .returned (.tuple #[.slice none 0 0, .int .i64 2]) ∧ New w w' := by
  obtain ⟨q, hq⟩ : ∃ q, Hid (q = (n + 127) / 128) := ⟨_, rfl⟩
  rw [← hq.out] at hg
  have hg0 := Lib.hid hg
  have h1 : ¬ (n : Int) < 1 := by omega
  have h2 : ¬ (4096 : Int) < (n : Int) := by omega
  have h3 : n ≤ 4096 := h.2
  have h4 : 1 ≤ n := h.1
  clear h hg
  go_enter Try.func17, Try.ntmps17
  go_wp2
  go_loop [10] (fun x => ∃ k : Nat, x = .int .i64 k ∧ 1 ≤ k ∧ (k - 1) * 128 < n) (fun x => n - (intOf x).toNat)
  case atStart => exact ⟨1, rfl, by omega, by omega⟩
  case round =>
    obtain ⟨k, rfl, hk1, hk2⟩ := hrel
    by_cases hlt : (k : Int) * 128 < (n : Int)
    · go_wp2
      go_round
      case rel => exact ⟨k + 1, by go_num, by omega, by omega⟩
      case measure => simp [intOf]; omega
    · have hkq : k = q := by have := hq.out; omega
      subst hkq
      go_wp2_with fail
      refine (GeomColumns_bad d p a k _ hg0.out).mono ?_
      rintro e w1 ⟨rfl, hn1⟩
      go_wp2
      go_ret2
      exact ⟨rfl, hn1⟩
/-- what lies in memory when so many columns are laid -/
structure QSt (w0 : World) (fb RT : Nat) (LA : Option Addr) (num cl dr pa ad ct wd Lg len : Nat) (X : Nat → Nat) (j jl : Nat) (Go Co Gl Cl : Nat → Nat) (s1 s2 : Value) (w : World) : Prop where
  nw : New w0 w
  col : w.ownsRow w0.heap.size 63 4 (.slice LA num cl) num (colL dr pa ad (cntC pa ct wd) num)
  full : RowK 5 .u8 w fb RT (fullX X len)
  own : LV w0 w j Go (fun i => 128 * cntC pa ct wd (pa + i)) Co (fun i k => fullX X len (atS ct wd i + k)) s1
  long : LV w0 w jl Gl (fun _ => Lg) Cl (fun i k => longX X len pa ct wd i k) s2
  ne : ∀ g, s1.ownBlock = some g → s2.ownBlock ≠ some g
section
variable {w0 w w' w'' : World} {fb RT : Nat} {LA : Option Addr} {num cl dr pa ad ct wd Lg len : Nat} {X : Nat → Nat} {j jl : Nat} {Go Co Gl Cl : Nat → Nat} {s1 s2 : Value}
theorem QSt.new (h : QSt w0 fb RT LA num cl dr pa ad ct wd Lg len X j jl Go Co Gl Cl s1 s2 w) (hn : New w w') : QSt w0 fb RT LA num cl dr pa ad ct wd Lg len X j jl Go Co Gl Cl s1 s2 w' :=
  ⟨h.nw.next hn, own_new h.col hn, h.full.new hn, h.own.new hn, h.long.new hn, h.ne⟩
theorem QSt.addOwn (h : QSt w0 fb RT LA num cl dr pa ad ct wd Lg len X j jl Go Co Gl Cl s1 s2 w) {g c : Nat} {s3 : Value} {o : Obj} (hr : RowK 5 .u8 w g (128 * cntC pa ct wd (pa + j)) (fun k => fullX X len (atS ct wd j + k))) (hc : 128 * cntC pa ct wd (pa + j) ≤ c ∧ c ≤ maxLen)
    (hown : w''.ownsRow w0.heap.size 32 1 s3 (j + 1) (rowsV Go (fun i => 128 * cntC pa ct wd (pa + i)) Co j ++ [.slice (some ⟨g, 0, none⟩) (128 * cntC pa ct wd (pa + j)) c])) (hgr : (w.alloc o).grownBy w'' s1.ownBlock) (hat : s1.ownBlock = s3.ownBlock ∨ s3.ownBlock = some (w.heap.size + 1)) :
    QSt w0 fb RT LA num cl dr pa ad ct wd Lg len X (j + 1) jl (fun i => if i = j then g else Go i) (fun i => if i = j then c else Co i) Gl Cl s3 s2 w'' := by
  have h2 := h.new ((New.refl w).alloc o)
  have hl := h2.long.own
  refine ⟨h2.nw.grown hgr fun g' hg' => (h2.own.own.lt _ hg').1, h2.col.kept hgr (own_ne_own h2.col h2.own.own (by decide)), h2.full.grown hgr (h2.full.ne_own h2.own.own (by decide)), h.own.more hr hc hown hgr, h2.long.far h2.own.own hgr ?_, fun g' hg' he => ?_⟩
  · cases hs : s1.ownBlock with
    | none => by_cases h0 : s2.ownBlock = none
              · exact .inl h0
              · exact .inr h0
    | some g1 => exact .inr (h.ne g1 hs)
  · rcases hat with h3 | h3
    · exact h.ne g' (h3.trans hg') he
    · rw [h3] at hg'
      injection hg' with hg'
      have := (hl.lt _ he).2
      simp at this
      have h4 := (h.long.own.lt _ he).2
      omega
theorem QSt.addLong (h : QSt w0 fb RT LA num cl dr pa ad ct wd Lg len X j jl Go Co Gl Cl s1 s2 w) {g c : Nat} {s3 : Value} {o : Obj} (hr : RowK 5 .u8 w g Lg (fun k => longX X len pa ct wd jl k)) (hc : Lg ≤ c ∧ c ≤ maxLen)
    (hown : w''.ownsRow w0.heap.size 32 1 s3 (jl + 1) (rowsV Gl (fun _ => Lg) Cl jl ++ [.slice (some ⟨g, 0, none⟩) Lg c])) (hgr : (w.alloc o).grownBy w'' s2.ownBlock) (hat : s2.ownBlock = s3.ownBlock ∨ s3.ownBlock = some (w.heap.size + 1)) :
    QSt w0 fb RT LA num cl dr pa ad ct wd Lg len X j (jl + 1) Go Co (fun i => if i = jl then g else Gl i) (fun i => if i = jl then c else Cl i) s1 s3 w'' := by
  have h2 := h.new ((New.refl w).alloc o)
  have hl := h.own.own
  refine ⟨h2.nw.grown hgr fun g' hg' => (h2.long.own.lt _ hg').1, h2.col.kept hgr (own_ne_own h2.col h2.long.own (by decide)), h2.full.grown hgr (h2.full.ne_own h2.long.own (by decide)), h2.own.far h2.long.own hgr ?_, h.long.more hr hc hown hgr, fun g' hg' he => ?_⟩
  · cases hs : s1.ownBlock with
    | none => exact .inl rfl
    | some g1 => exact .inr fun he => h.ne g1 hs he.symm
  · rcases hat with h3 | h3
    · exact h.ne g' hg' (h3.trans he)
    · rw [h3] at he
      injection he with he
      have h4 := (hl.lt _ hg').2
      omega
end
set_option maxHeartbeats 4000000 in
theorem StripeLay_ok (dr pa ad wd ct b off len cd : Nat) (X : Nat → Nat) (h1 : 2 ≤ dr) (h2 : dr ≤ 8) (h3 : 1 ≤ pa) (h4 : pa ≤ 3) (h5 : dr = pa + wd) (h6 : 1 ≤ wd) (h7 : ad ≤ 65536) (h : 1 ≤ len ∧ len ≤ 4096) (hct : ct = (len + 127) / 128) (w : World)
    (hX : ∀ k, k < len → w.cell? ⟨b, off + k, none⟩ = some (.int .u8 (X k : Nat))) (hX8 : ∀ k, X k < 256) (hb : b < w.heap.size) :
    Calls Try.prog 17 #[.int .i64 dr, .int .i64 pa, .int .i64 ad, .slice (some ⟨b, off, none⟩) len cd] w (LayPost (numP dr pa ct wd) (layL pa ct wd) (layM X len pa ct wd) w) := by
  obtain ⟨i0, hi0, hz0, hz1, hz2⟩ := info_parts infoSl
  obtain ⟨i1, hj0, hy0, hy1, hy2⟩ := info_parts infoU8
  have hc1 : 1 ≤ ct := by omega
  have hc2 : ct ≤ 32 := by omega
  have hcol := Lib.hid (fun w => GeomColumns_ok dr pa ad ct wd h1 h2 h3 h4 h5 h6 h7 hc1 hc2 w)
  have hnum := numP_eq (pa := pa) h6 hc1
  have hdc := dc_pos h6 hc1
  have hdl := dc_le h6 hc1
  rw [← h5] at hnum
  have hc0 := cnt_max (pa := pa) h6 hc1 hc2 h3
  have hlen1 := h.1
  have hlen2 := h.2
  obtain ⟨num, hnn⟩ : ∃ num, Hid (num = numP dr pa ct wd) := ⟨_, rfl⟩
  rw [← hnn.out] at hcol hnum ⊢
  have hn8 : num ≤ 8 := by omega
  obtain ⟨Lg, hLg⟩ : ∃ Lg, Hid (Lg = 128 * cntC pa ct wd 0) := ⟨_, rfl⟩
  have hLg4 : Lg ≤ 4096 := by have := hLg.out; omega
  obtain ⟨RT, hRT⟩ : ∃ RT, RT = 128 * ct := ⟨_, rfl⟩
  have hRT4 : RT ≤ 4096 := by omega
  have hlr : len ≤ RT := by omega
  obtain ⟨mz, hmz⟩ : ∃ mz, mz = RT - len := ⟨_, rfl⟩
  have hz : (ct : Int) * 128 - (len : Int) = (mz : Int) := by omega
  have hlm : len + mz = RT := by omega
  replace hlm := Lib.hid hlm
  clear hmz
  have hmz4 : mz ≤ 4096 := by have := hlm.out; omega
  replace hRT := Lib.hid hRT
  have hnum0 := Lib.hid hnum
  have h50 := Lib.hid h5
  have hct0 := Lib.hid hct
  have hX2 : Hid (∀ j u, (numL .u8 X len)[j]? = some u → ∀ w', New w w' → w'.cell? ((⟨b, off, none⟩ : Addr).add j) = some u) := fun j u hu w' hn => by
    have := numL_src hX j u hu
    rw [add_cell] at this ⊢
    exact (hn.cell (p := ⟨b, off + j, none⟩) hb).trans this
  have hone := Lib.hid (numL_one .u8 X len)
  have hnl : Hid ((numL .u8 X len).length = len) := numL_len .u8 X len
  have g1 : ¬ (len : Int) < 1 := by omega
  have g2 : ¬ (4096 : Int) < (len : Int) := by omega
  clear h hX hnum h5 hct
  go_enter Try.func17, Try.ntmps17
  go_wp2
  go_loop [10] (fun x => ∃ k : Nat, x = .int .i64 k ∧ 1 ≤ k ∧ (k - 1) * 128 < len) (fun x => len - (intOf x).toNat)
  case atStart => exact ⟨1, rfl, by omega, by omega⟩
  case round =>
    obtain ⟨k, rfl, hk1, hk2⟩ := hrel
    by_cases hlt : (k : Int) * 128 < (len : Int)
    · go_wp2
      go_round
      case rel => exact ⟨k + 1, by go_num, by omega, by omega⟩
      case measure => simp [intOf]; omega
    · have hkq : k = ct := by have := hct0.out; omega
      subst hkq
      clear hk1 hk2
      go_wp2_with fail
      refine (hcol.out _).mono ?_
      rintro e w1 ⟨v1, rfl, hcl, hn1⟩
      obtain ⟨LA, cl, rfl, hclc, hclm, hA⟩ := slice_own' hcl
      obtain ⟨g, rfl, hg1⟩ := hA (by have := hnum0.out; omega)
      have hlit := World.ownsRow_lit (e := 5) (size := 1) w1 #[] 0 (Nat.le_refl _) (by unfold maxLen; omega) rfl
      have hdcn : dcN k wd = num - pa := by have := hnum0.out; omega
      have hpn : pa < num := by have := hnum0.out; omega
      have hcle : ¬ cl = pa := by omega
      have hpi : (pa : Int) ≤ (num : Int) := by omega
      have hcol2 := Lib.hid hcl
      have hN1 := Lib.hid hn1
      obtain ⟨dc, hdce⟩ : ∃ dc, Hid (dc = dcN k wd) := ⟨_, rfl⟩
      rw [← hdce.out] at hdc hdl hdcn
      have hpd : Hid (num = pa + dc) := by show _ = _; omega
      have hpdi : num - pa = dc := by omega
      clear hcl hn1 hA hdcn
      go_wp2_with (first
        | (at_builtin
           refine wpList_append_own _ rfl _ _ 32 rfl w1.heap.size 5 i1 _ 1 1 Try.underlying32 hj0 hy0 hy1 hy2 rfl (by decide) (Value.slice (some ⟨w1.heap.size, 0, none⟩) 0 0) 0 [] rfl hlit ⟨b, off, none⟩ len cd (numL .u8 X len) rfl (by rw [hnl.out]; omega) (fun j u hu => hX2.out j u hu _ (hN1.out.alloc _)) hone.out (by unfold maxLen; omega) (by omega) (by simp) ?_
           intro v3 w3 hown3 hgrow3 hnil3
           rw [List.nil_append, Nat.zero_add] at hown3)
        | (at_builtin
           refine wpList_append_zerosA w3 w1.heap.size rfl _ _ 32 3 rfl 5 i1 (.int .u8 0) 1 .i64 .i64 Try.underlying32 Try.underlying3 hj0 hy0 hy1 hy2 rfl rfl v3 len (numL .u8 X len) hown3 mz (by unfold maxLen; omega) (by omega) (by have := hgrow3.size; simp at this; omega) rfl rfl ?_
           intro v4 w4 hown4 hgrow4
           rw [numL_zeros, hlm.out] at hown4
           obtain ⟨fb, fc, rfl, hfb1, hfb2⟩ := hown4.form (by omega)))
      have hN3 : New w w3 := hN1.out.append' hgrow3 (fun g hg => by have := hN1.out.size; simp [Value.ownBlock] at hg; omega)
      have hN4 : New w w4 := hN3.grown hgrow4 (fun g hg => Nat.le_trans hN1.out.size (hown3.lt g hg).1)
      have hcol4 : w4.ownsRow w.heap.size 63 4 (.slice (some ⟨g, 0, none⟩) num cl) num (colL dr pa ad (cntC pa k wd) num) := by
        have hN13 : New w1 w3 := (New.refl w1).append' hgrow3 (fun g hg => by simp [Value.ownBlock] at hg; omega)
        exact (own_new hcol2.out hN13).kept hgrow4 (own_ne_own (own_new hcol2.out hN13) hown3 (by decide))
      have hfc := own_open hown4
      obtain ⟨_, _, he, hfc1, hfc2, _⟩ := hfc
      cases he
      have hst : Hid (QSt w fb RT (some ⟨g, 0, none⟩) num cl dr pa ad k wd Lg len X 0 0 (fun _ => 0) (fun _ => 0) (fun _ => 0) (fun _ => 0) (.slice none 0 0) (.slice none 0 0) w4) :=
        ⟨hN4, hcol4, RowK.of_own hown4, LV.nil _ _ _ _ _ _, LV.nil _ _ _ _ _ _, fun g h => by cases h⟩
      clear hown3 hgrow3 hnil3 hgrow4 hown4 hN3 hN4 hcol4 hlit hcol2 hN1
      go_loopw [61, 16, 14, 15] (fun x y s t wr => ∃ (j : Nat) (Go Co Gl Cl : Nat → Nat) (s1 s2 : Value), s1 = s ∧ s2 = t ∧ x = .int .i64 j ∧ y = .int .i64 (atS k wd j) ∧ j ≤ dc ∧ Hid (QSt w fb RT (some ⟨g, 0, none⟩) num cl dr pa ad k wd Lg len X j j Go Co Gl Cl s1 s2 wr)) (fun x _ _ _ _ => dc - (intOf x).toNat)
      case atStart => exact ⟨0, _, _, _, _, _, _, rfl, rfl, rfl, by rw [at_zero]; rfl, by omega, hst.out⟩
      case round =>
        clear hst
        obtain ⟨j, Go, Co, Gl, Cl, s1, s2, rfl, rfl, rfl, rfl, hj, hs⟩ := hrel
        by_cases hlt2 : j < dc
        · obtain ⟨_, _, he, _, _, hA2, hcell⟩ := own_open hs.out.col
          cases he
          obtain ⟨_, he, _, hgl⟩ := hA2 (by omega)
          cases he
          have hpj : pa + j < num := by have := hpd.out; omega
          have hc0' := hcell g rfl ((pa + j) * 4 + 0) _ (by rw [colL_at dr pa ad _ num (pa + j) 0 hpj (by omega)]; rfl)
          have hc1' := hcell g rfl ((pa + j) * 4 + 1) _ (by rw [colL_at dr pa ad _ num (pa + j) 1 hpj (by omega)]; rfl)
          have hc2' := hcell g rfl ((pa + j) * 4 + 2) _ (by rw [colL_at dr pa ad _ num (pa + j) 2 hpj (by omega)]; rfl)
          have hc3' := hcell g rfl ((pa + j) * 4 + 3) _ (by rw [colL_at dr pa ad _ num (pa + j) 3 hpj (by omega)]; rfl)
          have hzq := hcell g rfl (0 * 4 + 2) _ (by rw [colL_at dr pa ad _ num 0 2 (by omega) (by omega)]; rfl)
          rw [show (pa + j) * 4 + 0 = pa * 4 + j * 4 by omega] at hc0'
          rw [show (pa + j) * 4 + 1 = pa * 4 + j * 4 + 1 by omega] at hc1'
          rw [show (pa + j) * 4 + 2 = pa * 4 + j * 4 + 2 by omega] at hc2'
          rw [show (pa + j) * 4 + 3 = pa * 4 + j * 4 + 3 by omega] at hc3'
          generalize (((ad + (pa + j)) % dr : Nat) : Int) = x0 at hc0'
          generalize (((ad + (pa + j)) / dr : Nat) : Int) = x1 at hc1'
          generalize decide (pa + j < pa) = x3 at hc3'
          obtain ⟨q, hq⟩ : ∃ q, Hid (q = cntC pa k wd (pa + j)) := ⟨_, rfl⟩
          obtain ⟨q0, hq0⟩ : ∃ q0, Hid (q0 = cntC pa k wd 0) := ⟨_, rfl⟩
          rw [← hq.out] at hc2'
          rw [← hq0.out] at hzq
          simp at hzq
          obtain ⟨at0, hat⟩ : ∃ at0, Hid (at0 = atS k wd j) := ⟨_, rfl⟩
          rw [← hat.out]
          have hnx := at_next (pa := pa) h6 hc1 j
          have hle := at_le h6 hc1 (j + 1) (by rw [← hdce.out]; omega)
          have hps := cnt_pos (pa := pa) h6 hc1 j (by rw [← hdce.out]; omega)
          have hql := cnt_le (pa := pa) (ct := k) h6 hc1 h3 (pa + j)
          rw [← hq.out] at hnx hps hql
          rw [← hq0.out] at hql
          have hq032 : q0 ≤ 32 := by rw [hq0.out]; exact hc0
          have hfit : at0 + 128 * q ≤ RT := by have := hat.out; have := hRT.out; omega
          have hnx0 : Hid (atS k wd (j + 1) = at0 + 128 * q) := by show _ = _; rw [hat.out]; exact hnx
          have hji : (j : Int) < (dc : Int) := by omega
          have hfca : ¬ fc = at0 := by omega
          clear hnx hle hA2 hcell
          obtain ⟨bx, hbx⟩ : ∃ bx : Obj, bx = .cells #[.int .i64 x0, .int .i64 x1, .int .i64 q, .bool x3] 63 := ⟨_, rfl⟩
          have hlit2 : ((wr.alloc bx).alloc (.cells #[] 5)).ownsRow (wr.heap.size + 1) 5 1 (.slice (some ⟨wr.heap.size + 1, 0, none⟩) 0 0) 0 [] := by
            have := World.ownsRow_lit (e := 5) (size := 1) (wr.alloc bx) #[] 0 (Nat.le_refl _) (by unfold maxLen; omega) rfl
            simpa using this
          have hsrc2 : Hid (∀ i u, (numL .u8 (fun i => fullX X len (at0 + i)) (128 * q))[i]? = some u → ∀ w', New wr w' → w'.cell? ((⟨fb, at0, none⟩ : Addr).add i) = some u) := fun i u hu w' hn => by
            have hrow := hs.out.full.new hn
            exact numL_src (fun i hi => hrow.cell (by omega)) i u hu
          have hone2 := Lib.hid (numL_one .u8 (fun i => fullX X len (at0 + i)) (128 * q))
          have hnl2 : Hid ((numL .u8 (fun i => fullX X len (at0 + i)) (128 * q)).length = 128 * q) := numL_len _ _ _
          have hNbx : New wr (wr.alloc bx) := (New.refl wr).alloc _
          have hbxb : Hid (Blk (wr.alloc bx) wr.heap.size 63 #[.int .i64 x0, .int .i64 x1, .int .i64 q, .bool x3]) := by rw [hbx]; exact Blk.fresh _ _ _
          rw [hbx] at hlit2 hNbx hbxb
          have hws := hs.out.nw.size
          have hj8 : j ≤ 8 := by have := hpd.out; omega
          clear hbx bx
          go_wp2_with (first
            | (at_builtin
               refine wpList_append_own _ rfl _ _ 32 rfl (wr.heap.size + 1) 5 i1 _ 1 1 Try.underlying32 hj0 hy0 hy1 hy2 rfl (by decide) (Value.slice (some ⟨wr.heap.size + 1, 0, none⟩) 0 0) 0 [] rfl hlit2 ⟨fb, at0, none⟩ (at0 + 128 * q - at0) (fc - at0) (numL .u8 (fun i => fullX X len (at0 + i)) (128 * q)) rfl (by rw [hnl2.out]; omega) (fun i u hu => hsrc2.out i u hu _ (hNbx.alloc _)) hone2.out (by unfold maxLen; omega) (by omega) (by simp) ?_
               intro v5 w5 hown5 hgrow5 hnil5
               rw [List.nil_append, show 0 + (at0 + 128 * q - at0) = 128 * q by omega] at hown5
               obtain ⟨g5, c5, rfl, hg5a, hg5b⟩ := hown5.form (by omega)
               have hN5 : New wr w5 := hNbx.append' hgrow5 (fun g hg => by simp [Value.ownBlock] at hg; omega)
               have hs5 := hs.out.new hN5
               have hown5l := hs5.own.own)
            | (at_builtin
               refine wpList_append_lies _ rfl _ _ 22 rfl w.heap.size 32 i0 _ 1 24 Try.underlying22 hi0 hz0 hz1 hz2 rfl (by decide) s1 j _ rfl (hown5l.alloc _) ⟨w5.heap.size, 0, none⟩ 1 1 [.slice (some ⟨g5, 0, none⟩) (128 * q) c5] rfl rfl (World.news_of_block (cs := #[.slice _ _ _]) (t := 32) (fr := (0, 0)) (heap_alloc_new w5 _)) (by simp [Value.oneCell']) (by omega) (by unfold maxLen; omega) (by omega) (by have := hN5.size; simp; omega) (w5.heap.size + 1) (by simp) ?_
               intro g6 c6 w6 hown6 hgrow6 hat6 hlt6))
          have hr5 := RowK.of_own hown5
          have hc5 := own_open hown5
          obtain ⟨_, _, he, hc5a, hc5b, _⟩ := hc5
          cases he
          have hs6 := hs5.addOwn (g := g5) (c := c5) (by rw [← hq.out, ← hat.out]; exact hr5) (by rw [← hq.out]; exact ⟨hc5a, hc5b⟩) (by rw [← hq.out]; exact hown6) hgrow6 (by
            rcases hat6 with h | h
            · left; exact h
            · right; rw [h]; rfl)
          have hb5 := hbxb.out.new ((New.refl _).append' hgrow5 (fun g hg => by simp [Value.ownBlock] at hg ⊢; omega))
          have hb6 := (hb5.alloc (.cells #[.slice (some ⟨g5, 0, none⟩) (128 * q) c5] 32)).grown hgrow6 (blk_ne_own (hb5.alloc (.cells #[.slice (some ⟨g5, 0, none⟩) (128 * q) c5] 32)) (hown5l.alloc (.cells #[.slice (some ⟨g5, 0, none⟩) (128 * q) c5] 32)) (by decide))
          obtain ⟨bb, hbb⟩ : ∃ bb, bb = wr.heap.size := ⟨_, rfl⟩
          rw [← hbb] at hb6 ⊢
          have d1 := hb6.cell 2
          simp at d1
          have hbl6 := Lib.hid hb6
          obtain ⟨_, _, he, _, _, hA6, hcell6⟩ := own_open hs6.col
          cases he
          obtain ⟨_, he, _, hgl6⟩ := hA6 (by omega)
          cases he
          have d0 := hcell6 g rfl (0 * 4 + 2) _ (by rw [colL_at dr pa ad _ num 0 2 (by omega) (by omega)]; rfl)
          rw [← hq0.out] at d0
          simp at d0
          replace hs6 := Lib.hid hs6
          clear hc0' hc1' hc2' hc3' hzq hr5 hown6 hgrow6 hat6 hlt6 hb5 hb6 hA6 hcell6 hown5 hgrow5 hnil5 hs5 hown5l hN5 hbxb hNbx hlit2 hsrc2 hs hbb hg5b
          obtain ⟨dq, hdq⟩ : ∃ dq, dq = q0 - q := ⟨_, rfl⟩
          obtain ⟨mm, hmm⟩ : ∃ mm, mm = 128 * dq := ⟨_, rfl⟩
          have v1 : (q0 : Int) - (q : Int) = (dq : Int) := by omega
          have v2 : (128 : Int) * (dq : Int) = (mm : Int) := by omega
          have v3 : IntKind.i64.wrap (dq : Int) = (dq : Int) := IntWalk.i64_in _ (by omega)
          have v4 : IntKind.i64.wrap (mm : Int) = (mm : Int) := IntWalk.i64_in _ (by omega)
          have hqm : Hid (128 * q + mm = Lg) := by show _ = _; rw [hLg.out, ← hq0.out]; omega
          have hmm4 : mm ≤ 4096 := by omega
          have hsrc6 : Hid (∀ i u, (numL .u8 (fun i => fullX X len (at0 + i)) (128 * q))[i]? = some u → ∀ w', New w6 w' → w'.cell? ((⟨fb, at0, none⟩ : Addr).add i) = some u) := fun i u hu w' hn => by
            have hrow := hs6.out.full.new hn
            exact numL_src (fun i hi => hrow.cell (by omega)) i u hu
          have hlit6 := World.ownsRow_lit (e := 5) (size := 1) w6 #[] 0 (Nat.le_refl _) (by unfold maxLen; omega) rfl
          have hkeep6 : Hid (∀ w', New w6 w' → w'.cell? ⟨g, 2, none⟩ = some (.int .i64 q0) ∧ w'.cell? ⟨bb, 2, none⟩ = some (.int .i64 q)) := fun w' h => ⟨(h.cell (lt_of_cell d0)).trans d0, (h.cell (lt_of_cell d1)).trans d1⟩
          have hfar6 : Hid (∀ w' w'' n xs, New w6 w' → w'.ownsRow w.heap.size 32 1 s2 n xs → w'.grownBy w'' s2.ownBlock → w''.cell? ⟨g, 2, none⟩ = some (.int .i64 q0) ∧ w''.cell? ⟨bb, 2, none⟩ = some (.int .i64 q)) := fun w' w'' n xs hn ho hg => by
            obtain ⟨e0, e1⟩ := hkeep6.out w' hn
            refine ⟨hg.cell e0 (fun he => ?_), hg.cell e1 (fun he => blk_ne_own (hbl6.out.new hn) ho (by decide) he.symm)⟩
            rcases own_ne_own (own_new hs6.out.col hn) ho (by decide) with h | h
            · cases h
            · exact h he
          have hlongL : Hid (numL .u8 (fun i => fullX X len (at0 + i)) (128 * q) ++ List.replicate mm (.int .u8 0) = numL .u8 (longX X len pa k wd j) Lg) := by
            show _ = _
            rw [numL_zeros, hqm.out]
            unfold numL
            apply List.map_congr_left
            intro i _
            show Value.int .u8 _ = _
            congr 2
            unfold longX
            rw [← hq.out, ← hat.out]
            rfl
          have hw6s := hs6.out.nw.size
          have hn0 : 0 < num := by omega
          have hn0i : (0 : Int) < (num : Int) := by omega
          clear hdq hmm
          go_region_held3 (fun w' => w'.cell? ⟨g, 2, none⟩ = some (.int .i64 q0) ∧ w'.cell? ⟨bb, 2, none⟩ = some (.int .i64 q))
            (first
              | exact hkeep6.out _ (New.refl _).drew
              | assumption
              | exact hS10
              | exact hkeep6.out _ (New.alloc hN9 _)
              | exact hkeep6.out _ hN9
              | exact hkeep6.out _ hN8
              | exact hkeep6.out _ ((New.refl _).alloc _)
              | exact hkeep6.out _ ((New.refl _).alloc _).drew)
            (first
              | (refine step_append_lies _ (by rfl) _ _ 32 (by rfl) w6.heap.size 5 i1 _ 1 1 Try.underlying32 hj0 hy0 hy1 hy2 rfl (by decide) (Value.slice (some ⟨w6.heap.size, 0, none⟩) 0 0) 0 [] (by rfl) hlit6.drew ⟨fb, at0, none⟩ (128 * q) (fc - at0) (numL .u8 (fun i => fullX X len (at0 + i)) (128 * q)) (by rfl) (by rw [hnl2.out]; omega) (fun i u hu => hsrc6.out i u hu _ ((New.refl w6).alloc _).drew) hone2.out (by omega) (by unfold maxLen; omega) (by omega) (by simp) (w6.heap.size + 1) (by simp) ?_; intro g8 c8 w8 hown8 hgrow8 hat8 hlt8; rw [List.nil_append, Nat.zero_add] at hown8; have hN8 : New w6 w8 := New.grown ((New.refl w6).alloc (.cells #[] 5)).drew hgrow8 (fun g hg => by simp [Value.ownBlock] at hg; omega))
              | (refine step_append_zerosA w8 w6.heap.size (by rfl) _ _ 32 3 (by rfl) 5 i1 (.int .u8 0) 1 .i64 .i64 Try.underlying32 Try.underlying3 hj0 hy0 hy1 hy2 rfl rfl (.slice (some ⟨g8, 0, none⟩) (0 + 128 * q) c8) (128 * q) (numL .u8 (fun i => fullX X len (at0 + i)) (128 * q)) (by rfl) (by rw [Nat.zero_add]; exact hown8) mm (by rfl) (by unfold maxLen; omega) (by omega) hN8.size ?_; intro v9 w9 hown9 hgrow9; rw [hlongL.out, hqm.out] at hown9; obtain ⟨g9, c9, rfl, hg9a, hg9b⟩ := hown9.form (by have := hqm.out; omega); have hN9 : New w6 w9 := hN8.grown hgrow9 (fun g hg => (hown8.lt g hg).1); have hr9 := RowK.of_own hown9; have hs9 := hs6.out.new hN9; have hl9 := hs9.long.own; have hb9 := hs9.nw.size; obtain ⟨_, _, he9, hc9a, hc9b, _⟩ := own_open hown9; cases he9; replace hs9 := Lib.hid hs9; clear hown9 hgrow9 hown8)
              | (refine step_append_lies _ (by rfl) _ _ 22 (by rfl) w.heap.size 32 i0 _ 1 24 Try.underlying22 hi0 hz0 hz1 hz2 rfl (by decide) s2 j (rowsV Gl (fun _ => Lg) Cl j) (by rfl) (hl9.alloc _) ⟨w9.heap.size, 0, none⟩ 1 1 [.slice (some ⟨g9, 0, none⟩) Lg c9] (by rfl) (by rfl) (World.news_of_block (cs := #[.slice _ _ _]) (t := 32) (fr := (0, 0)) (heap_alloc_new w9 _)) (by simp [Value.oneCell']) (by omega) (by unfold maxLen; omega) (by omega) (by simp; omega) (w9.heap.size + 1) (by simp) ?_; intro g10 c10 w10 hown10 hgrow10 hat10 hlt10; have hS10 := hfar6.out _ w10 _ _ (New.alloc hN9 _) (hl9.alloc _) hgrow10; have hs10 := hs9.out.addLong hr9 ⟨hc9a, hc9b⟩ hown10 hgrow10 (by rcases hat10 with h | h; (left; exact h); (right; rw [h]; rfl)); replace hs10 := Lib.hid hs10; clear hown10 hgrow10 hat10))
          all_goals clear hkeep6 hfar6 hsrc6 hlongL hlit6 d0 d1 v1 v2 v3 v4
          all_goals go_wp2
          all_goals go_roundw
          case rel => exact ⟨j + 1, _, _, _, _, _, _, rfl, rfl, by go_num, (by rw [hnx0.out]; go_num), by omega, hs10.out⟩
          case measure => simp [intOf]; omega
        · have hjd : j = dc := by omega
          subst hjd
          have hj1 : 1 ≤ j := hdc
          obtain ⟨A2, cw, hsv, hrd⟩ := hs.out.long.rdM
          obtain ⟨A1, cw1, hsv1, hrd1⟩ := hs.out.own.rdM
          have howno := hs.out.own.own
          rw [hsv1] at howno
          have hM8 : ∀ i, i < j → ∀ k', k' < Lg → 0 ≤ ((longX X len pa k wd i k' : Nat) : Int) ∧ ((longX X len pa k wd i k' : Nat) : Int) ≤ 255 := fun i _ k' _ => by
            have := longX_lt hX8 len pa k wd i k'
            omega
          have henc := Lib.hid (ParEncode_cap A2 j cw (pa : Int) _ _ _ _ wr hrd hM8)
          have hcode : peCode j (fun _ => Lg) (pa : Int) = 0 := by
            unfold peCode
            rw [if_pos, if_pos ⟨by omega, by omega⟩]
            unfold mayC evB
            simp
            refine ⟨⟨by omega, by have := hpd.out; omega⟩, fun i _ => ?_⟩
            unfold evP
            exact ⟨rfl, hLg4⟩
          have hlenp : peLen j (fun _ => Lg) (pa : Int) = pa := by unfold peLen; rw [hcode]; simp
          rw [hcode, hlenp] at henc
          have hnj : ¬ (j : Int) < (j : Int) := by omega
          subst hsv
          subst hsv1
          clear hrd hM8 hcode hlenp hrd1 hlt2 hdc
          obtain ⟨ga, hA1, _⟩ := (own_open howno).elim fun A h => h.elim fun c h => (by obtain ⟨he, _, _, h3, _⟩ := h; cases he; exact h3 (by omega))
          subst hA1
          go_wp2_with fail
          refine henc.out.mono ?_
          rintro e w5 ⟨v5, rfl, ⟨B, d, R1, C1, rfl, hd, hrd5⟩, hn5⟩
          subst hd
          have hs5 := Lib.hid (hs.out.new hn5)
          obtain ⟨b1, o1, rfl, hb1, hcs1⟩ := hrd5.2.1 (by omega)
          have hnews : Hid (∀ i u, (rowsV Go (fun i => 128 * cntC d k wd (d + i)) Co j)[i]? = some u → w5.cell? ((⟨ga, 0, none⟩ : Addr).add i) = some u) := fun i u hu => hs5.out.own.own.cells rfl i u hu
          have holds : Hid (∀ b, some (⟨b1, o1, none⟩ : Addr) = some b → ∀ i u, ((List.range d).map fun i => Value.slice (R1 i) Lg (C1 i))[i]? = some u → w5.cell? (b.add i) = some u) := fun b hbe i u hu => by
            cases hbe
            have hi : i < d := by have := (List.getElem?_eq_some_iff.1 hu).1; simpa using this
            rw [add_cell, hcs1 i hi]
            simpa [hi] using hu
          have holen : Hid (((List.range d).map fun i => Value.slice (R1 i) Lg (C1 i)).length = d) := by show _ = _; simp
          have hnlen : Hid ((rowsV Go (fun i => 128 * cntC d k wd (d + i)) Co j).length = j) := by show _ = _; simp [rowsV]
          have hrone : Hid (∀ u ∈ rowsV Go (fun i => 128 * cntC d k wd (d + i)) Co j, u.oneCell' = true) := fun u hu => by
            obtain ⟨i, _, rfl⟩ := List.mem_map.1 hu
            rfl
          have hrd5' := Lib.hid hrd5
          clear hrd5 hcs1 henc hs howno
          go_wp2_with (refine wpList_append_grows w5 rfl _ _ 22 rfl 32 i0 _ 1 24 Try.underlying22 hi0 hz0 hz1 hz2 rfl (by decide) (some ⟨b1, o1, none⟩) d d ((List.range d).map fun i => .slice (R1 i) Lg (C1 i)) rfl (fun h => by cases h) (by rw [holen.out]; omega) holds.out ⟨ga, 0, none⟩ j cw1 (rowsV Go (fun i => 128 * cntC d k wd (d + i)) Co j) rfl (by rw [hnlen.out]; omega) hnews.out hrone.out (by omega) (by unfold maxLen; omega) (by omega) ?_; intro v6 w6 hown6 hgrow6)
          have hN56 : New w5 w6 := New.of_grown hgrow6
          have hN6 : New w w6 := hs5.out.nw.next hN56
          obtain ⟨A6, c6, rfl, h61, h62, h63, h64⟩ := own_open hown6
          have hnumE : Hid (num = d + j) := hpd.out
          have hpost : Hid (LayPost num (layL d k wd) (layM X len d k wd) w (.returned (.tuple #[.slice A6 (d + j) c6, .int .i64 0])) w6) := by
            refine ⟨⟨A6, c6, fun c => if c < d then R1 c else some ⟨Go (c - d), 0, none⟩, fun c => if c < d then C1 c else Co (c - d), by rw [hnumE.out], by unfold maxLen; omega, fun _ => ?_, fun i hi => ?_⟩, hN6⟩
            · obtain ⟨g6, rfl, _, hg6⟩ := h63 (by omega)
              refine ⟨g6, 0, rfl, hg6, fun i hi => ?_⟩
              have := hnumE.out
              rw [Nat.zero_add]
              apply h64 g6 rfl
              by_cases e : i < d
              · rw [List.getElem?_append_left (by rw [holen.out]; exact e)]
                simp only [if_pos e, layL, ← hLg.out]
                simp [e]
              · rw [List.getElem?_append_right (by rw [holen.out]; omega), holen.out]
                simp only [if_neg e, layL]
                simp [rowsV, show i - d < j by omega, show d + (i - d) = i by omega]
            · by_cases e : i < d
              · simp only [if_pos e, layL, layM]
                obtain ⟨r1, r2, r3⟩ := hrd5'.out.2.2 i e
                refine ⟨?_, by rw [← hLg.out]; exact r2, r3⟩
                rw [← hLg.out, ← hdce.out]
                exact r1.new hN56
              · simp only [if_neg e, layL, layM]
                have hij : i - d < j := by have := hnumE.out; omega
                have hrow := (hs5.out.own.row (i - d) hij).new hN56
                have hcp := hs5.out.own.cap (i - d) hij
                simp only [show d + (i - d) = i by omega] at hrow hcp
                exact ⟨hrow.rdI (Nat.le_trans hcp.1 hcp.2), hcp.1, hcp.2⟩
          clear hown6 hgrow6 h61 h62 h63 h64
          go_wp2
          go_ret2
          exact hpost.out
end Go.Proofs.Ytjmjnodaohbpfaa.stripe
