/-
  Contract of a step: the state; what is refused.
-/
import Derived.Test.YtiffgeglbafenaaTreeResize
import Derived.Test.YtiffgeglbafenaaTreeShow
namespace Go.Proofs.Ytiffgeglbafenaa.tree
open Go.ChangeShapes Go.WideShapes Go.ChangeAt Go.RowKit Go.Proofs.Ytiffgeglbafenaa.kit Go.Deep
set_option linter.unusedVariables false
set_option maxRecDepth 100000
abbrev szV (vs : List Ver) (i : Nat) : Value := .int .i64 ((vs.getD i Ver.none).size : Nat)
/-- the forest: versions vs, their roots rv -/
structure Fo (base fb : Nat) (vs : List Ver) (vA : Option Addr) (vc : Nat) (rv : Nat → Value) (w : World) : Prop where
  fbk : Fb w fb (.slice vA vs.length vc)
  vo : w.ownsRow base 78 2 (.slice vA vs.length vc) vs.length (pairL rv (szV vs) vs.length)
  vt : ∀ i, i < vs.length → Tr w (fun _ => True) vs.length (lvl (vs.getD i Ver.none).size) (rv i) (vs.getD i Ver.none).f
  lo : base ≤ fb
theorem Fo.new {base fb vc : Nat} {vs : List Ver} {vA : Option Addr} {rv : Nat → Value} {w w' : World} (h : Fo base fb vs vA vc rv w) (hn : New w w') : Fo base fb vs vA vc rv w' :=
  ⟨h.fbk.new hn, own_new h.vo hn, fun i hi => (h.vt i hi).new hn, h.lo⟩
/-- .. behind an append to a row of something else -/
theorem Fo.grown {base fb vc : Nat} {vs : List Ver} {vA : Option Addr} {rv : Nat → Value} {w w' : World} (h : Fo base fb vs vA vc rv w) {b e s n : Nat} {v : Value} {xs : List Value} (ho : w.ownsRow b e s v n xs) (h1 : e ≠ 65) (h2 : e ≠ 78) (h3 : e ≠ 94) (hg : w.grownBy w' v.ownBlock) : Fo base fb vs vA vc rv w' := by
  refine ⟨?_, ?_, fun i hi => (h.vt i hi).grown hg fun g cs hb => own_ne_blk ho hb h3, h.lo⟩
  · obtain ⟨m, hm⟩ := h.fbk
    exact ⟨m, hm.grown hg (own_ne_blk ho hm h1)⟩
  · refine h.vo.kept hg ?_
    rcases h.vo.2 with ⟨he, _⟩ | ⟨g, cap, cur, he, _, hg0, _⟩
    · exact .inl (by rw [he]; rfl)
    · rw [he]
      exact .inr (fun hh => own_ne_blk ho (t := 78) hg0 h2 hh.symm)
/-- an answer, as a value -/
def shoV (x : Sho) (dv : Value) : Array Value := #[.int .i64 x.code, .int .i64 x.ver, .int .i64 x.size, dv]
def stepV (k v off cnt : Int) (R : Option Addr) (l c : Nat) : Value := .agg #[.int .i64 k, .int .i64 v, .int .i64 off, .int .i64 cnt, .slice R l c]
abbrev KF (fb : Nat) (vv : Value) : Nat → Prop := fun k => k = fb ∨ vv.ownBlock = some k
/-- what a step leaves -/
def StepP (base fb : Nat) (vv : Value) (st : List Ver × Sho) (w : World) (e : Ending) (w' : World) : Prop :=
  ∃ dv vA vc rv, e = .returned (.agg (shoV st.2 dv)) ∧ DatT w' dv st.2.len st.2.d ∧ Fo base fb st.1 vA vc rv w' ∧ Alt (KF fb vv) w w'
theorem no_any (cd : Int) (w : World) : Calls Try.prog 21 #[.int .i64 cd] w fun e w' => e = .returned (.agg #[.int .i64 cd, .int .i64 0, .int .i64 0, .slice none 0 0]) ∧ New w w' := by
  have hb := Blk.fresh w 46 #[.int .i64 0, .int .i64 0, .int .i64 0, .slice none 0 0]
  have hb2 := Lib.hid hb
  clear hb
  go_enter Try.func21, Try.ntmps21
  go_wp2_with (refine wpList_store_row rfl 46 _ _ rfl w.heap.size #[.int .i64 cd, .int .i64 0, .int .i64 0, .slice none 0 0] rfl rfl 46 #[.int .i64 0, .int .i64 0, .int .i64 0, .slice none 0 0] hb2.out (by kernel_rfl) rfl (by simp [Value.oneCell']) ?_)
  exact bodyPost_ret (v := .agg #[.int .i64 cd, .int .i64 0, .int .i64 0, .slice none 0 0]) (results_cell_row Try.results21 _ _ w.heap.size 46 _ (0, 0) _ rfl (Blk.row hb2.out #[.int .i64 cd, .int .i64 0, .int .i64 0, .slice none 0 0]) Try.underlying46 rfl (by kernel_rfl)) rfl ⟨rfl, ((New.refl w).alloc _).row (Nat.le_refl _) _⟩
abbrev sho0 : Array Value := #[.int .i64 0, .int .i64 0, .int .i64 0, .slice none 0 0]
theorem infoSho4 : (Try.prog.info? 46).map (·.size) = some 4 := by kernel_rfl
/-- how a refusal ends -/
theorem no_end {base fb vc : Nat} {vs : List Ver} {vA : Option Addr} {rv : Nat → Value} {w w1 : World} (hD : Fo base fb vs vA vc rv w) (hn : New w w1) (hb : Blk w1 (w.heap.size + 1) 46 sho0) (cd : Int) :
    StepP base fb (.slice vA vs.length vc) (vs, Sho.no cd) w (.returned (.agg #[.int .i64 cd, .int .i64 0, .int .i64 0, .slice none 0 0])) (w1.setRow (w.heap.size + 1) #[.int .i64 cd, .int .i64 0, .int .i64 0, .slice none 0 0]) := by
  have hn2 : New w (w1.setRow (w.heap.size + 1) #[.int .i64 cd, .int .i64 0, .int .i64 0, .slice none 0 0]) := hn.row (Nat.le_succ _) _
  exact ⟨_, vA, vc, rv, rfl, DatT.nil _ _, hD.new hn2, Alt.of_new hn2⟩
-- WALK
theorem step_no {vs : List Ver} {k v off cnt : Int} {l : Nat} {D : Nat → Nat} {cd : Int} (h : codeT vs.length k v off cnt l = cd ∧ cd ≠ 0) : stepT vs k v off cnt l D = (vs, Sho.no cd) := by
  unfold stepT
  rw [if_pos (by rw [h.1]; exact h.2), h.1]
theorem cd_kind {n : Nat} {k v off cnt : Int} {l : Nat} (h : k < 1 ∨ 3 < k) : codeT n k v off cnt l = 3 ∧ (3 : Int) ≠ 0 := ⟨if_pos h, by decide⟩
theorem cd_ver {n : Nat} {k v off cnt : Int} {l : Nat} (h : ¬ (k < 1 ∨ 3 < k)) (h2 : v < 0 ∨ (n : Int) ≤ v) : codeT n k v off cnt l = 2 ∧ (2 : Int) ≠ 0 := ⟨by unfold codeT; rw [if_neg h, if_pos h2], by decide⟩
theorem cd_off {n : Nat} {k v off cnt : Int} {l : Nat} (h : ¬ (k < 1 ∨ 3 < k)) (h2 : ¬ (v < 0 ∨ (n : Int) ≤ v)) (h3 : k = 1) (h4 : off < 0) : codeT n k v off cnt l = 2 ∧ (2 : Int) ≠ 0 := ⟨by unfold codeT; rw [if_neg h, if_neg h2, if_pos h3, if_pos h4], by decide⟩
theorem cd_len {n : Nat} {k v off cnt : Int} {l : Nat} (h : ¬ (k < 1 ∨ 3 < k)) (h2 : ¬ (v < 0 ∨ (n : Int) ≤ v)) (h3 : k = 1) (h4 : ¬ off < 0) (h5 : l = 0 ∨ 4096 < off + l) : codeT n k v off cnt l = 1 ∧ (1 : Int) ≠ 0 := ⟨by unfold codeT; rw [if_neg h, if_neg h2, if_pos h3, if_neg h4, if_pos h5], by decide⟩
theorem cd_cnt {n : Nat} {k v off cnt : Int} {l : Nat} (h : ¬ (k < 1 ∨ 3 < k)) (h2 : ¬ (v < 0 ∨ (n : Int) ≤ v)) (h3 : k = 2) (h4 : cnt < 0 ∨ 4096 < cnt) : codeT n k v off cnt l = 2 ∧ (2 : Int) ≠ 0 := ⟨by unfold codeT; rw [if_neg h, if_neg h2, if_neg (by omega), if_pos h3, if_pos h4], by decide⟩
theorem cd_read {n : Nat} {k v off cnt : Int} {l : Nat} (h : ¬ (k < 1 ∨ 3 < k)) (h2 : ¬ (v < 0 ∨ (n : Int) ≤ v)) (h3 : k = 3) (h4 : off < 0 ∨ cnt < 0) : codeT n k v off cnt l = 2 ∧ (2 : Int) ≠ 0 := ⟨by unfold codeT; rw [if_neg h, if_neg h2, if_neg (by omega), if_neg (by omega), if_pos h4], by decide⟩
theorem Fo.set {base fb vc : Nat} {vs : List Ver} {vA : Option Addr} {rv : Nat → Value} {w w' : World} (h : Fo base fb vs vA vc rv w) {b : Nat} {t : TypeId} {cs : Array Value} (hb : Blk w b t cs) (h1 : t ≠ 65) (h2 : t ≠ 78) (h3 : t ≠ 94) (hg : w.grownBy w' (some b)) : Fo base fb vs vA vc rv w' := by
  refine ⟨?_, h.vo.kept hg ?_, fun i hi => (h.vt i hi).grown hg fun g cs hn e => blk_ne' hb hn h3 (Option.some.inj e), h.lo⟩
  · obtain ⟨m, hm⟩ := h.fbk
    exact ⟨m, hm.grown hg fun e => blk_ne' hb hm h1 (Option.some.inj e)⟩
  · exact .inr (fun hh => own_ne_blk h.vo hb (Ne.symm h2) hh)
theorem pairL_congr {a b a' b' : Nat → Value} {n : Nat} (h : ∀ i, i < n → a i = a' i ∧ b i = b' i) : pairL a b n = pairL a' b' n := by
  unfold pairL
  rw [List.flatMap_def, List.flatMap_def]
  congr 1
  apply List.map_congr_left
  intro i hi
  have hi := List.mem_range.1 hi
  rw [(h i hi).1, (h i hi).2]
theorem getD_old {vs : List Ver} {x : Ver} {i : Nat} (h : i < vs.length) : (vs ++ [x]).getD i Ver.none = vs.getD i Ver.none := by
  simp [List.getD, List.getElem?_append_left h]
theorem getD_new {vs : List Ver} {x : Ver} : (vs ++ [x]).getD vs.length Ver.none = x := by simp [List.getD]
/-- one version more -/
theorem fo_push {base fb vc : Nat} {vs : List Ver} {vA : Option Addr} {rv : Nat → Value} {w w5 w6 : World} (h : Fo base fb vs vA vc rv w) (x : Ver) (p : Option Addr) (hT : Tr w5 (fun _ => True) (vs.length + 1) (lvl x.size) (.pointer p) x.f) (hA : Alt (fun k => k = fb) w w5) (hfbk : Fb w5 fb (.slice vA vs.length vc))
    (hadd : (∃ vA' vc', Fb w6 fb (.slice vA' (vs.length + 1) vc') ∧ w6.ownsRow base 78 2 (.slice vA' (vs.length + 1) vc') (vs.length + 1) (pairL rv (szV vs) vs.length ++ [.pointer p, .int .i64 (x.size : Nat)])) ∧ Alt (KF fb (.slice vA vs.length vc)) w5 w6) :
    (∃ vA' vc' rv', Fo base fb (vs ++ [x]) vA' vc' rv' w6) ∧ Alt (KF fb (.slice vA vs.length vc)) w w6 := by
  obtain ⟨⟨vA', vc', hf6, ho6⟩, hA6⟩ := hadd
  have hF5 : w5.ownsRow base 78 2 (.slice vA vs.length vc) vs.length (pairL rv (szV vs) vs.length) := hA.own h.vo fun g hg e => by
    obtain ⟨m, hm⟩ := h.fbk
    exact own_ne_blk h.vo hm (by decide) (by rw [hg, e])
  have hfb5 : ∃ m v, Blk w5 fb 65 #[v, .int .i64 m] := by
    obtain ⟨m, hm⟩ := hfbk
    exact ⟨m, _, hm⟩
  have hno : ∀ g cs, Blk w5 g 94 cs → ¬ KF fb (.slice vA vs.length vc) g := fun g cs hb hk => by
    obtain ⟨m, v, hm⟩ := hfb5
    rcases hk with hk | hk
    · subst hk; exact blk_ne' hb hm (by decide) rfl
    · exact own_ne_blk hF5 hb (by decide) hk
  have hl : (vs ++ [x]).length = vs.length + 1 := by simp
  refine ⟨⟨vA', vc', fun i => if i = vs.length then .pointer p else rv i, ⟨by rw [hl]; exact hf6, ?_, fun i hi => ?_, h.lo⟩⟩, (hA.weak fun k hk => .inl hk).trans hA6⟩
  · rw [hl]
    have e : pairL (fun i => if i = vs.length then .pointer p else rv i) (szV (vs ++ [x])) (vs.length + 1) = pairL rv (szV vs) vs.length ++ [.pointer p, .int .i64 (x.size : Nat)] := by
      rw [← pairL_more]
      refine pairL_congr fun i hi => ⟨rfl, ?_⟩
      by_cases h1 : i = vs.length
      · subst h1
        rw [if_pos rfl]
        unfold szV
        rw [getD_new]
      · rw [if_neg h1]
        unfold szV
        rw [getD_old (by omega)]
    rw [e]
    exact ho6
  · rw [hl] at hi ⊢
    by_cases h1 : i = vs.length
    · subst h1
      rw [getD_new, if_pos rfl]
      exact hT.alt hA6 fun g cs _ hb => hno g cs hb
    · rw [getD_old (by omega), if_neg h1]
      exact (((h.vt i (by omega)).alt hA fun g cs _ hb => h.fbk.ne hb).alt hA6 fun g cs _ hb => hno g cs hb).mono (Nat.le_succ _) fun _ x => x
theorem codeT_ok {n : Nat} {k v off cnt : Int} {l : Nat} (h : ¬ (k < 1 ∨ 3 < k)) (h2 : ¬ (v < 0 ∨ (n : Int) ≤ v)) (h3 : k = 1 → ¬ off < 0 ∧ ¬ (l = 0 ∨ 4096 < off + l)) (h4 : k = 2 → ¬ (cnt < 0 ∨ 4096 < cnt)) (h5 : k = 3 → ¬ (off < 0 ∨ cnt < 0)) : codeT n k v off cnt l = 0 := by
  unfold codeT
  rw [if_neg h, if_neg h2]
  by_cases k1 : k = 1
  · rw [if_pos k1, if_neg (h3 k1).1, if_neg (h3 k1).2]
  · rw [if_neg k1]
    by_cases k2 : k = 2
    · rw [if_pos k2, if_neg (h4 k2)]
    · rw [if_neg k2, if_neg (h5 (by omega))]
theorem step1T {vs : List Ver} {i : Nat} {off cnt : Int} {l : Nat} {D : Nat → Nat} (h : codeT vs.length 1 i off cnt l = 0) : stepT vs 1 i off cnt l D = (vs ++ [(vs.getD i Ver.none).put off.toNat l D], ⟨0, vs.length, ((vs.getD i Ver.none).put off.toNat l D).size, 0, fun _ => 0⟩) := by
  unfold stepT
  rw [if_neg (by rw [h]; simp), if_pos rfl]
  rfl
theorem step2T {vs : List Ver} {i : Nat} {off cnt : Int} {l : Nat} {D : Nat → Nat} (h : codeT vs.length 2 i off cnt l = 0) : stepT vs 2 i off cnt l D = (vs ++ [(vs.getD i Ver.none).cut cnt.toNat], ⟨0, vs.length, cnt.toNat, 0, fun _ => 0⟩) := by
  unfold stepT
  rw [if_neg (by rw [h]; simp), if_neg (by decide), if_pos rfl]
  rfl
theorem step3T {vs : List Ver} {i : Nat} {off cnt : Int} {l : Nat} {D : Nat → Nat} (h : codeT vs.length 3 i off cnt l = 0) : stepT vs 3 i off cnt l D = (vs, (vs.getD i Ver.none).show off.toNat cnt.toNat) := by
  unfold stepT
  rw [if_neg (by rw [h]; simp), if_neg (by decide), if_neg (by decide)]
  rfl
/-- how a step that makes a version ends -/
theorem push_end {base fb n : Nat} {vv : Value} {vs : List Ver} {w w6 : World} (hP : (∃ vA' vc' rv', Fo base fb vs vA' vc' rv' w6) ∧ Alt (KF fb vv) w w6) (hb : Blk w6 (w.heap.size + 1) 46 sho0) (sz : Nat) (d : Nat → Nat) :
    StepP base fb vv (vs, ⟨0, n, sz, 0, d⟩) w (.returned (.agg #[.int .i64 0, .int .i64 n, .int .i64 sz, .slice none 0 0])) (w6.setRow (w.heap.size + 1) #[.int .i64 0, .int .i64 n, .int .i64 sz, .slice none 0 0]) := by
  obtain ⟨⟨vA', vc', rv', hFo⟩, hA⟩ := hP
  exact ⟨_, vA', vc', rv', rfl, DatT.nil _ _, hFo.set hb (by decide) (by decide) (by decide) (grown_row _ _ _), hA.row (.inr (Nat.le_succ _)) _⟩
set_option maxHeartbeats 4000000 in
theorem Step_any (base fb vc l c : Nat) (vs : List Ver) (vA R : Option Addr) (rv : Nat → Value) (k v off cnt : Int) (D : Nat → Nat) (w : World) (hD : Fo base fb vs vA vc rv w) (hI : InT 300 vs) (hb : base ≤ w.heap.size) (hR : RdU base w R l D) (hlc : l ≤ c) (hcm : c ≤ maxLen) :
    Calls Try.prog 16 #[ptr fb, stepV k v off cnt R l c] w (StepP base fb (.slice vA vs.length vc) (stepT vs k v off cnt l D) w) := by
  obtain ⟨W1, hW1⟩ : ∃ W1, W1 = (w.alloc (.cells #[.int .i64 k, .int .i64 v, .int .i64 off, .int .i64 cnt, .slice R l c] 44)).alloc (.cells #[.int .i64 0, .int .i64 0, .int .i64 0, .slice none 0 0] 46) := ⟨_, rfl⟩
  have hnW : Hid (New w W1) := by show New w W1; rw [hW1]; exact ((New.refl w).alloc _).alloc _
  have hsW : Blk W1 w.heap.size 44 #[.int .i64 k, .int .i64 v, .int .i64 off, .int .i64 cnt, .slice R l c] := by rw [hW1]; exact (Blk.fresh w _ _).alloc _
  have hbW : Hid (Blk W1 (w.heap.size + 1) 46 sho0) := by
    have := Blk.fresh (w.alloc (.cells #[.int .i64 k, .int .i64 v, .int .i64 off, .int .i64 cnt, .slice R l c] 44)) 46 sho0
    show Blk _ _ _ _
    rw [hW1]
    simpa using this
  have hsz1 : w.heap.size + 1 < W1.heap.size := by rw [hW1]; simp
  have hDH := Lib.hid hD
  have hRH := Lib.hid hR
  have hIH := Lib.hid hI
  have hfbl := hD.fbk.lt
  obtain ⟨m, hm⟩ := hD.fbk.new hnW.out
  have f0 := hm.cell 0
  have s0 := hsW.cell 0
  have s1 := hsW.cell 1
  have s2 := hsW.cell 2
  have s3 := hsW.cell 3
  have s4 := hsW.cell 4
  simp at f0 s0 s1 s2 s3 s4
  obtain ⟨n, hn⟩ : ∃ n, Hid (n = vs.length) := ⟨_, rfl⟩
  rw [← hn.out] at f0
  have hn300 : n ≤ 301 := by have := hI.2.1; have := hn.out; omega
  have hsW := Lib.hid hsW
  unfold maxLen at hcm
  clear hD hR hI hm
  unfold stepV
  go_enter Try.func16, Try.ntmps16
  go_upto_region 1 with fail
  rw [← hW1]
  clear hW1
  by_cases hk : k < 1 ∨ 3 < k
  · by_cases h1 : k < 1
    · have hk := Lib.hid hk
      go_wp2_with fail
      refine (no_any 3 _).mono ?_
      rintro x w2 ⟨rfl, hn2⟩
      dsimp only
      have hnX : New W1 w2 := by first | exact hn2 | exact New.next (New.of_drewN _ _) hn2 | exact New.next (New.refl W1).drew hn2
      have hb2 := Lib.hid (hbW.out.new hnX)
      have hend : Hid (StepP base fb (.slice vA vs.length vc) (stepT vs k v off cnt l D) w (.returned (.agg #[.int .i64 3, .int .i64 0, .int .i64 0, .slice none 0 0])) (w2.setRow (w.heap.size + 1) #[.int .i64 3, .int .i64 0, .int .i64 0, .slice none 0 0])) := by
        rw [step_no (vs := vs) (k := k) (v := v) (off := off) (cnt := cnt) (l := l) (D := D) (cd := 3) (cd_kind hk.out)]
        exact no_end hDH.out (hnW.out.next hnX) hb2.out 3
      clear hn2 hnX
      go_wp2_with (refine wpList_store_row rfl 46 _ _ rfl (w.heap.size + 1) #[.int .i64 3, .int .i64 0, .int .i64 0, .slice none 0 0] rfl rfl 46 sho0 hb2.out infoSho4 rfl (by simp [Value.oneCell']) ?_)
      exact bodyPost_ret (v := .agg #[.int .i64 3, .int .i64 0, .int .i64 0, .slice none 0 0]) (results_cell_row Try.results16 _ _ (w.heap.size + 1) 46 _ (0, 0) _ rfl (Blk.row hb2.out #[.int .i64 3, .int .i64 0, .int .i64 0, .slice none 0 0]) Try.underlying46 rfl infoSho4) rfl hend.out
    · have h3 : 3 < k := by omega
      have hk := Lib.hid hk
      go_wp2_with fail
      refine (no_any 3 _).mono ?_
      rintro x w2 ⟨rfl, hn2⟩
      dsimp only
      have hnX : New W1 w2 := by first | exact hn2 | exact New.next (New.of_drewN _ _) hn2 | exact New.next (New.refl W1).drew hn2
      have hb2 := Lib.hid (hbW.out.new hnX)
      have hend : Hid (StepP base fb (.slice vA vs.length vc) (stepT vs k v off cnt l D) w (.returned (.agg #[.int .i64 3, .int .i64 0, .int .i64 0, .slice none 0 0])) (w2.setRow (w.heap.size + 1) #[.int .i64 3, .int .i64 0, .int .i64 0, .slice none 0 0])) := by
        rw [step_no (vs := vs) (k := k) (v := v) (off := off) (cnt := cnt) (l := l) (D := D) (cd := 3) (cd_kind hk.out)]
        exact no_end hDH.out (hnW.out.next hnX) hb2.out 3
      clear hn2 hnX
      go_wp2_with (refine wpList_store_row rfl 46 _ _ rfl (w.heap.size + 1) #[.int .i64 3, .int .i64 0, .int .i64 0, .slice none 0 0] rfl rfl 46 sho0 hb2.out infoSho4 rfl (by simp [Value.oneCell']) ?_)
      exact bodyPost_ret (v := .agg #[.int .i64 3, .int .i64 0, .int .i64 0, .slice none 0 0]) (results_cell_row Try.results16 _ _ (w.heap.size + 1) 46 _ (0, 0) _ rfl (Blk.row hb2.out #[.int .i64 3, .int .i64 0, .int .i64 0, .slice none 0 0]) Try.underlying46 rfl infoSho4) rfl hend.out
  · have hk1 : ¬ k < 1 := by omega
    have hk3 : ¬ 3 < k := by omega
    have hkH := Lib.hid hk
    by_cases hv : v < 0 ∨ (n : Int) ≤ v
    · have hvH : Hid (v < 0 ∨ (vs.length : Int) ≤ v) := by rw [← hn.out]; exact hv
      go_upto_region 3 with fail
      by_cases h1 : v < 0
      · clear hv hk
        go_quiet (fail)
        go_wp2_with fail
        refine (no_any 2 _).mono ?_
        rintro x w2 ⟨rfl, hn2⟩
        dsimp only
        have hnX : New W1 w2 := by first | exact hn2 | exact New.next (New.of_drewN _ _) hn2 | exact New.next (New.refl W1).drew hn2
        have hb2 := Lib.hid (hbW.out.new hnX)
        have hend : Hid (StepP base fb (.slice vA vs.length vc) (stepT vs k v off cnt l D) w (.returned (.agg #[.int .i64 2, .int .i64 0, .int .i64 0, .slice none 0 0])) (w2.setRow (w.heap.size + 1) #[.int .i64 2, .int .i64 0, .int .i64 0, .slice none 0 0])) := by
          rw [step_no (vs := vs) (k := k) (v := v) (off := off) (cnt := cnt) (l := l) (D := D) (cd := 2) (cd_ver hkH.out hvH.out)]
          exact no_end hDH.out (hnW.out.next hnX) hb2.out 2
        clear hn2 hnX
        go_wp2_with (refine wpList_store_row rfl 46 _ _ rfl (w.heap.size + 1) #[.int .i64 2, .int .i64 0, .int .i64 0, .slice none 0 0] rfl rfl 46 sho0 hb2.out infoSho4 rfl (by simp [Value.oneCell']) ?_)
        exact bodyPost_ret (v := .agg #[.int .i64 2, .int .i64 0, .int .i64 0, .slice none 0 0]) (results_cell_row Try.results16 _ _ (w.heap.size + 1) 46 _ (0, 0) _ rfl (Blk.row hb2.out #[.int .i64 2, .int .i64 0, .int .i64 0, .slice none 0 0]) Try.underlying46 rfl infoSho4) rfl hend.out
      · have h2 : (n : Int) ≤ v := by omega
        clear hv hk
        go_quiet (fail)
        go_wp2_with fail
        refine (no_any 2 _).mono ?_
        rintro x w2 ⟨rfl, hn2⟩
        dsimp only
        have hnX : New W1 w2 := by first | exact hn2 | exact New.next (New.of_drewN _ _) hn2 | exact New.next (New.refl W1).drew hn2
        have hb2 := Lib.hid (hbW.out.new hnX)
        have hend : Hid (StepP base fb (.slice vA vs.length vc) (stepT vs k v off cnt l D) w (.returned (.agg #[.int .i64 2, .int .i64 0, .int .i64 0, .slice none 0 0])) (w2.setRow (w.heap.size + 1) #[.int .i64 2, .int .i64 0, .int .i64 0, .slice none 0 0])) := by
          rw [step_no (vs := vs) (k := k) (v := v) (off := off) (cnt := cnt) (l := l) (D := D) (cd := 2) (cd_ver hkH.out hvH.out)]
          exact no_end hDH.out (hnW.out.next hnX) hb2.out 2
        clear hn2 hnX
        go_wp2_with (refine wpList_store_row rfl 46 _ _ rfl (w.heap.size + 1) #[.int .i64 2, .int .i64 0, .int .i64 0, .slice none 0 0] rfl rfl 46 sho0 hb2.out infoSho4 rfl (by simp [Value.oneCell']) ?_)
        exact bodyPost_ret (v := .agg #[.int .i64 2, .int .i64 0, .int .i64 0, .slice none 0 0]) (results_cell_row Try.results16 _ _ (w.heap.size + 1) 46 _ (0, 0) _ rfl (Blk.row hb2.out #[.int .i64 2, .int .i64 0, .int .i64 0, .slice none 0 0]) Try.underlying46 rfl infoSho4) rfl hend.out
    · have hvH : Hid (¬ (v < 0 ∨ (vs.length : Int) ≤ v)) := by rw [← hn.out]; exact hv
      have hv1 : ¬ v < 0 := by omega
      have hv2 : ¬ (n : Int) ≤ v := by omega
      obtain ⟨i, rfl⟩ : ∃ i : Nat, (i : Int) = v := ⟨v.toNat, by omega⟩
      have hi : i < vs.length := by have := hn.out; omega
      obtain ⟨p, hp⟩ := (hDH.out.vt i hi).isP
      obtain ⟨x, hx⟩ : ∃ x, Hid (x = vs.getD i Ver.none) := ⟨_, rfl⟩
      have hxf : Hid x.fine := by rw [hx.out]; exact getD_fine hIH.out.2.2 i
      obtain ⟨sz, hsz⟩ : ∃ sz, Hid (sz = x.size) := ⟨_, rfl⟩
      have hsz4 : sz ≤ 4096 := by rw [hsz.out]; exact hxf.out.1
      have hTx : Hid (Tr w (fun _ => True) vs.length (lvl sz) (.pointer p) x.f) := by
        have := hDH.out.vt i hi
        rw [hp, ← hx.out, ← hsz.out] at this
        exact this
      obtain ⟨vg, hvg, g0, g1⟩ : ∃ vg, vA = some ⟨vg, 0, none⟩ ∧ W1.cell? ⟨vg, i * 2, none⟩ = some (.pointer p) ∧ W1.cell? ⟨vg, i * 2 + 1, none⟩ = some (.int .i64 (sz : Nat)) := by
        obtain ⟨A0, c0, he, h1, h2, h3, h4⟩ := own_open hDH.out.vo
        injection he with he1 he2 he3
        obtain ⟨vg, hA, _, hlt⟩ := h3 (by omega)
        subst he1
        obtain ⟨q0, q1⟩ := pairL_at rv (szV vs) vs.length i hi
        rw [hp] at q0
        refine ⟨vg, hA, (hnW.out.cell (p := ⟨vg, i * 2, none⟩) hlt).trans (h4 vg hA _ _ q0), ?_⟩
        have := h4 vg hA _ _ q1
        rw [hsz.out, hx.out]
        exact (hnW.out.cell (p := ⟨vg, i * 2 + 1, none⟩) hlt).trans this
      subst hvg
      have hi1 : (i : Int) < (n : Int) := by omega
      have hi0 : (0 : Int) ≤ (i : Int) := by omega
      go_upto_region 3 with fail
      clear hv hk
      go_quiet (fail)
      go_upto_region 5 with fail
      obtain ⟨W2, hW2⟩ : ∃ W2, W2 = W1.drewN nq := ⟨_, rfl⟩
      rw [← hW2]
      have hn2 : New W1 W2 := by rw [hW2]; exact New.of_drewN _ _
      replace f0 := (hn2.cell (lt_of_cell f0)).trans f0
      replace s0 := (hn2.cell (lt_of_cell s0)).trans s0
      replace s1 := (hn2.cell (lt_of_cell s1)).trans s1
      replace s2 := (hn2.cell (lt_of_cell s2)).trans s2
      replace s3 := (hn2.cell (lt_of_cell s3)).trans s3
      replace s4 := (hn2.cell (lt_of_cell s4)).trans s4
      replace g0 := (hn2.cell (lt_of_cell g0)).trans g0
      replace g1 := (hn2.cell (lt_of_cell g1)).trans g1
      replace hnW : Hid (New w W2) := hnW.out.next hn2
      replace hbW : Hid (Blk W2 (w.heap.size + 1) 46 sho0) := hbW.out.new hn2
      have hsz2 : w.heap.size + 1 < W2.heap.size := Nat.lt_of_lt_of_le hsz1 hn2.size
      clear hW2 hn2 hsz1 hsW
      have n2a := (New.refl W2).alloc (.cells #[.pointer none, .int .i64 0] 78)
      have f0a := (n2a.cell (lt_of_cell f0)).trans f0
      have s1a := (n2a.cell (lt_of_cell s1)).trans s1
      have g0a := (n2a.cell (lt_of_cell g0)).trans g0
      have g1a := (n2a.cell (lt_of_cell g1)).trans g1
      go_region
      obtain ⟨W3, hW3⟩ : ∃ W3, W3 = (W2.alloc (.cells #[.pointer p, .int .i64 (sz : Nat)] 78)).drew := ⟨_, rfl⟩
      rw [← hW3]
      have hn3 : New W2 W3 := by rw [hW3]; exact ((New.refl W2).alloc _).drew
      have hv3 : Hid (Blk W3 W2.heap.size 78 #[.pointer p, .int .i64 (sz : Nat)]) := by show Blk _ _ _ _; rw [hW3]; exact (Blk.fresh W2 _ _).drew
      obtain ⟨vb, hvb⟩ : ∃ vb, Hid (vb = W2.heap.size) := ⟨_, rfl⟩
      rw [← hvb.out] at hv3 ⊢
      have hvbw : w.heap.size + 1 < vb := by rw [hvb.out]; exact hsz2
      have hvb3 := hv3.out.lt
      clear f0 s1 g0 g1 f0a s1a g0a g1a n2a
      replace s0 := (hn3.cell (lt_of_cell s0)).trans s0
      replace s2 := (hn3.cell (lt_of_cell s2)).trans s2
      replace s3 := (hn3.cell (lt_of_cell s3)).trans s3
      replace s4 := (hn3.cell (lt_of_cell s4)).trans s4
      replace hnW : Hid (New w W3) := hnW.out.next hn3
      replace hbW : Hid (Blk W3 (w.heap.size + 1) 46 sho0) := hbW.out.new hn3
      have hf3 := Lib.hid (hDH.out.fbk.new hnW.out)
      have hvv3 := Lib.hid (own_new hDH.out.vo hnW.out)
      have hT3 := Lib.hid (hTx.out.new hnW.out)
      clear hW3 hn3 hsz2
      have v0 := hv3.out.cell 0
      have v1 := hv3.out.cell 1
      simp at v0 v1
      have hk123 : k = 1 ∨ k = 2 ∨ k = 3 := by omega
      clear hk1 hk3 hv1 hv2 hi1 hi0
      rcases hk123 with rfl | rfl | rfl
      · by_cases ho : off < 0
        · have ho' := Lib.hid ho
          go_wp2_with fail
          refine (no_any 2 _).mono ?_
          rintro x w2 ⟨rfl, hn2⟩
          dsimp only
          have hnX : New W3 w2 := by first | exact hn2 | exact New.next (New.of_drewN _ _) hn2 | exact New.next (New.refl W3).drew hn2
          have hb2 := Lib.hid (hbW.out.new hnX)
          have hend : Hid (StepP base fb (.slice (some ⟨vg, 0, none⟩) vs.length vc) (stepT vs 1 i off cnt l D) w (.returned (.agg #[.int .i64 2, .int .i64 0, .int .i64 0, .slice none 0 0])) (w2.setRow (w.heap.size + 1) #[.int .i64 2, .int .i64 0, .int .i64 0, .slice none 0 0])) := by
            rw [step_no (vs := vs) (k := 1) (v := i) (off := off) (cnt := cnt) (l := l) (D := D) (cd := 2) (cd_off hkH.out hvH.out rfl ho)]
            exact no_end hDH.out (hnW.out.next hnX) hb2.out 2
          clear hn2 hnX
          go_wp2_with (refine wpList_store_row rfl 46 _ _ rfl (w.heap.size + 1) #[.int .i64 2, .int .i64 0, .int .i64 0, .slice none 0 0] rfl rfl 46 sho0 hb2.out infoSho4 rfl (by simp [Value.oneCell']) ?_)
          exact bodyPost_ret (v := .agg #[.int .i64 2, .int .i64 0, .int .i64 0, .slice none 0 0]) (results_cell_row Try.results16 _ _ (w.heap.size + 1) 46 _ (0, 0) _ rfl (Blk.row hb2.out #[.int .i64 2, .int .i64 0, .int .i64 0, .slice none 0 0]) Try.underlying46 rfl infoSho4) rfl hend.out
        · have ho' := Lib.hid ho
          by_cases hl : l = 0 ∨ 4096 < off + l
          · by_cases hl0 : l = 0
            · have hl := Lib.hid hl
              subst hl0
              go_wp2_with fail
              refine (no_any 1 _).mono ?_
              rintro x w2 ⟨rfl, hn2⟩
              dsimp only
              have hnX : New W3 w2 := by first | exact hn2 | exact New.next (New.of_drewN _ _) hn2 | exact New.next (New.refl W3).drew hn2
              have hb2 := Lib.hid (hbW.out.new hnX)
              have hend : Hid (StepP base fb (.slice (some ⟨vg, 0, none⟩) vs.length vc) (stepT vs 1 i off cnt 0 D) w (.returned (.agg #[.int .i64 1, .int .i64 0, .int .i64 0, .slice none 0 0])) (w2.setRow (w.heap.size + 1) #[.int .i64 1, .int .i64 0, .int .i64 0, .slice none 0 0])) := by
                rw [step_no (vs := vs) (k := 1) (v := i) (off := off) (cnt := cnt) (l := 0) (D := D) (cd := 1) (cd_len hkH.out hvH.out rfl (by have := ho'.out; omega) (.inl rfl))]
                exact no_end hDH.out (hnW.out.next hnX) hb2.out 1
              clear hn2 hnX
              go_wp2_with (refine wpList_store_row rfl 46 _ _ rfl (w.heap.size + 1) #[.int .i64 1, .int .i64 0, .int .i64 0, .slice none 0 0] rfl rfl 46 sho0 hb2.out infoSho4 rfl (by simp [Value.oneCell']) ?_)
              exact bodyPost_ret (v := .agg #[.int .i64 1, .int .i64 0, .int .i64 0, .slice none 0 0]) (results_cell_row Try.results16 _ _ (w.heap.size + 1) 46 _ (0, 0) _ rfl (Blk.row hb2.out #[.int .i64 1, .int .i64 0, .int .i64 0, .slice none 0 0]) Try.underlying46 rfl infoSho4) rfl hend.out
            · have hl2 : (4096 : Int) - (l : Int) < off := by omega
              have hl3 : ((l : Int) == 0) = false := by simp; omega
              have hl := Lib.hid hl
              go_wp2_with fail
              refine (no_any 1 _).mono ?_
              rintro x w2 ⟨rfl, hn2⟩
              dsimp only
              have hnX : New W3 w2 := by first | exact hn2 | exact New.next (New.of_drewN _ _) hn2 | exact New.next (New.refl W3).drew hn2
              have hb2 := Lib.hid (hbW.out.new hnX)
              have hend : Hid (StepP base fb (.slice (some ⟨vg, 0, none⟩) vs.length vc) (stepT vs 1 i off cnt l D) w (.returned (.agg #[.int .i64 1, .int .i64 0, .int .i64 0, .slice none 0 0])) (w2.setRow (w.heap.size + 1) #[.int .i64 1, .int .i64 0, .int .i64 0, .slice none 0 0])) := by
                rw [step_no (vs := vs) (k := 1) (v := i) (off := off) (cnt := cnt) (l := l) (D := D) (cd := 1) (cd_len hkH.out hvH.out rfl (by have := ho'.out; omega) hl.out)]
                exact no_end hDH.out (hnW.out.next hnX) hb2.out 1
              clear hn2 hnX
              go_wp2_with (refine wpList_store_row rfl 46 _ _ rfl (w.heap.size + 1) #[.int .i64 1, .int .i64 0, .int .i64 0, .slice none 0 0] rfl rfl 46 sho0 hb2.out infoSho4 rfl (by simp [Value.oneCell']) ?_)
              exact bodyPost_ret (v := .agg #[.int .i64 1, .int .i64 0, .int .i64 0, .slice none 0 0]) (results_cell_row Try.results16 _ _ (w.heap.size + 1) 46 _ (0, 0) _ rfl (Blk.row hb2.out #[.int .i64 1, .int .i64 0, .int .i64 0, .slice none 0 0]) Try.underlying46 rfl infoSho4) rfl hend.out
          · obtain ⟨o, rfl⟩ : ∃ o : Nat, (o : Int) = off := ⟨off.toNat, by omega⟩
            have hlH := Lib.hid hl
            have hl0 : ((l : Int) == 0) = false := by simp; omega
            have hl2 : ¬ (4096 : Int) - (l : Int) < (o : Int) := by omega
            have hol : o + l ≤ 4096 := by omega
            obtain ⟨S, hS⟩ : ∃ S, Hid (S = max sz (o + l)) := ⟨_, rfl⟩
            have hS4 : S ≤ 4096 := by rw [hS.out]; omega
            have hmx : max (sz : Int) ((o : Int) + (l : Int)) = (S : Int) := by rw [hS.out]; omega
            have hst : Hid (stepT vs 1 i o cnt l D = (vs ++ [x.put o l D], ⟨0, vs.length, S, 0, fun _ => 0⟩)) := by
              show _ = _
              rw [step1T (codeT_ok hkH.out hvH.out (fun _ => ⟨by omega, hlH.out⟩) (fun h => by cases h) (fun h => by cases h)), ← hx.out, hS.out, hsz.out]
              rfl
            obtain ⟨lv, hlv⟩ : ∃ lv, Hid (lv = lvl S) := ⟨_, rfl⟩
            have hlv3 : lv ≤ 3 := by rw [hlv.out]; exact lvl_le S
            have hlev : Hid (∀ w', Calls Try.prog 22 #[.int .i64 (S : Int)] w' fun e w'' => e = .returned (.int .i64 (lv : Nat)) ∧ w' = w'') := fun w' => by rw [hlv.out]; exact levelOf_any S hS4 w'
            have vz := hv3.out.frozen 1
            clear hl
            go_upto_region 13 with fail
            obtain ⟨W4, hW4⟩ : ∃ W4, W4 = W3.setCell ⟨vb, 1, none⟩ (.int .i64 (S : Nat)) := ⟨_, rfl⟩
            rw [← hW4]
            have hg4 : W3.grownBy W4 (some vb) := by rw [hW4]; exact grown_set W3 vb 1 _
            have hv4 : Blk W4 vb 78 #[.pointer p, .int .i64 (S : Nat)] := by rw [hW4]; exact hv3.out.put 1 (.int .i64 (S : Nat))
            have hn4 : Hid (New w W4) := hnW.out.grown1 hg4 (by omega)
            have hb4 : Hid (Blk W4 (w.heap.size + 1) 46 sho0) := hbW.out.grown hg4 (fun e => by have := Option.some.inj e; omega)
            have s2' : W4.cell? ⟨w.heap.size, 2, none⟩ = some (.int .i64 (o : Nat)) := (World.cell?_of_block (w := W3) (hg4.block w.heap.size (lt_of_cell s2) (fun e => by have := Option.some.inj e; omega))).trans s2
            have s4' : W4.cell? ⟨w.heap.size, 4, none⟩ = some (.slice R l c) := (World.cell?_of_block (w := W3) (hg4.block w.heap.size (lt_of_cell s4) (fun e => by have := Option.some.inj e; omega))).trans s4
            have u0 := hv4.cell 0
            have u1 := hv4.cell 1
            simp at u0 u1
            have hf4 := Lib.hid (hDH.out.fbk.new hn4.out)
            have hvv4 := Lib.hid (own_new hDH.out.vo hn4.out)
            have hT4 := Lib.hid (hTx.out.new hn4.out)
            have hR4 := Lib.hid (hRH.out.alt (Alt.of_new (K := fun _ => False) hn4.out) fun k hk => hk.elim)
            have hv4l := hv4.lt
            clear hW4 hg4 hv4 s2 s4 v0 v1 vz hl0 hl2 hmx
            go_upto_region 14 with (refine (hlev.out _).mono ?_; rintro y w5 ⟨rfl, rfl⟩; dsimp only)
            have hvo := Lib.hid (fun k (h : Value.ownBlock (.slice (some ⟨vg, 0, none⟩) vs.length vc) = some k) => (hDH.out.vo.lt k h).2)
            have hkeep : Hid (∀ w', Alt (fun k => KF fb (.slice (some ⟨vg, 0, none⟩) vs.length vc) k ∨ k = w.heap.size + 1) W4 w' → w'.cell? ⟨vb, 0, none⟩ = some (.pointer p) ∧ w'.cell? ⟨vb, 1, none⟩ = some (.int .i64 (S : Nat)) ∧ w'.cell? ⟨w.heap.size, 2, none⟩ = some (.int .i64 (o : Nat)) ∧ w'.cell? ⟨w.heap.size, 4, none⟩ = some (.slice R l c)) := fun w' ha => by
              have hK : ∀ k, (k = vb ∨ k = w.heap.size) → ¬ (KF fb (.slice (some ⟨vg, 0, none⟩) vs.length vc) k ∨ k = w.heap.size + 1) := fun k hk hh => by
                rcases hh with (h1 | h1) | h1
                · omega
                · have := hvo.out k h1
                  omega
                · omega
              exact ⟨ha.cell u0 (hK _ (.inl rfl)), ha.cell u1 (hK _ (.inl rfl)), ha.cell s2' (hK _ (.inr rfl)), ha.cell s4' (hK _ (.inr rfl))⟩
            have hraise : Hid (∀ w', New W4 w' → Calls Try.prog 25 #[ptr fb, .agg #[.pointer p, .int .i64 (S : Nat)], .int .i64 (lv : Int)] w' (RaisedP (fun g => True ∧ g < w'.heap.size) vs.length vs.length fb (.slice (some ⟨vg, 0, none⟩) vs.length vc) lv x.f w')) := fun w' hn => by
              have hz : ∀ j, roomN (lvl sz) ≤ j → x.f j = 0 := fun j hj => hxf.out.2 j (by have := lvl_room hsz4; rw [← hsz.out]; omega)
              refine raised_any fb lv (lvl sz) vs.length vc (some ⟨vg, 0, none⟩) p _ _ vs.length x.f w' (hf4.out.new hn) (hT4.out.new hn).bound (fun _ => by rw [hlv.out]; exact lvl_mono (by rw [hS.out]; omega)) hlv3 hz fun h j hj => ?_
              rcases hT4.out.form with ⟨_, h1⟩ | ⟨g, F, b, he, _⟩
              · by_cases h2 : j < roomN (lvl sz)
                · exact h1 j h2
                · exact hz j (by omega)
              · rw [h] at he
                cases he
            go_region_held3 (fun w' => w'.cell? ⟨vb, 0, none⟩ = some (.pointer p) ∧ w'.cell? ⟨vb, 1, none⟩ = some (.int .i64 (S : Nat)) ∧ w'.cell? ⟨w.heap.size, 2, none⟩ = some (.int .i64 (o : Nat)) ∧ w'.cell? ⟨w.heap.size, 4, none⟩ = some (.slice R l c))
              (first
                | exact hkeep.out _ (Alt.of_new (New.refl _).drew)
                | assumption
                | exact hkeep.out _ (hA5.weak fun k hk => .inl hk)
                | exact hkeep.out _ (hA6.weak fun k hk => .inl hk)
                | exact hkeep.out _ (hA7.weak fun k hk => .inl hk)
                | exact hkeep.out _ hA8)
              (first
                | (go_at_call 25; refine (hraise.out _ (New.refl _).drew).mono ?_; rintro y w5 ⟨v5, rfl, hW5, hF5, hA5'⟩
                   have hA5 : Alt (KF fb (.slice (some ⟨vg, 0, none⟩) vs.length vc)) W4 w5 := (Alt.of_new (New.refl W4).drew).trans (hA5'.weak fun k hk => .inl hk)
                   have hRd5 := hR4.out.alt hA5 fun k hk => by
                     rcases hk with h1 | h1
                     · rw [h1]; exact hDH.out.lo
                     · exact (hDH.out.vo.lt k h1).1)
                | (go_at_call 24; refine (write_any lv hlv3 fb vs.length vc 0 o l c base W4.drew.heap.size w5.heap.size (some ⟨vg, 0, none⟩) R v5 (fun g => True ∧ g < W4.drew.heap.size) x.f D w5 hF5 hW5 (fun g hg => hg.2) hf4.out.lt hA5'.size (Nat.le_refl _) hRd5 hDH.out.lo (Nat.le_trans hb hn4.out.size) (by omega) (by omega) (by rw [Nat.zero_add]; exact roomN_le hlv3)).mono ?_; rintro y w6 ⟨v6, rfl, hT6, hF6, hA6'⟩
                   obtain ⟨p6, rfl⟩ := hT6.isP
                   have hA46 : Alt (fun k => k = fb) W4 w6 := ((Alt.of_new (New.refl W4).drew).trans hA5').trans' hA6' fun k hk => by
                     rcases hk with h1 | h1
                     · exact .inl h1
                     · exact .inr h1.1
                   have hA6 : Alt (KF fb (.slice (some ⟨vg, 0, none⟩) vs.length vc)) W4 w6 := hA46.weak fun k hk => .inl hk
                   have hO6 := hA46.own hvv4.out fun g hg e => by
                     obtain ⟨m, hm⟩ := hf4.out
                     exact own_ne_blk hvv4.out hm (by decide) (by rw [hg, e]))
                | (go_at_call 23; refine (Add_any base fb vs.length vc S (some ⟨vg, 0, none⟩) p6 (pairL rv (szV vs) vs.length) w6 hF6 hO6 (by have := hn.out; omega) (Nat.le_trans hb (Nat.le_trans hn4.out.size hA46.size)) hDH.out.lo).mono ?_; rintro y w7 ⟨rfl, hp7⟩
                   have hA7 : Alt (KF fb (.slice (some ⟨vg, 0, none⟩) vs.length vc)) W4 w7 := hA6.trans hp7.2
                   have hb7 := hA7.blk hb4.out (by
                     rintro (h1 | h1)
                     · omega
                     · have := hvo.out _ h1; omega)
                   have r0 := hb7.cell 0
                   have r1 := hb7.cell 1
                   have r2 := hb7.cell 2
                   have r3 := hb7.cell 3
                   have z0 := hb7.frozen 0
                   have z1 := hb7.frozen 1
                   have z2 := hb7.frozen 2
                   have z3 := hb7.frozen 3
                   simp at r0 r1 r2 r3
                   have hA78 : Alt (fun k => k = w.heap.size + 1) w7 ((((w7.setCell ⟨w.heap.size + 1, 0, none⟩ (.int .i64 0)).setCell ⟨w.heap.size + 1, 1, none⟩ (.int .i64 (vs.length : Nat))).setCell ⟨w.heap.size + 1, 2, none⟩ (.int .i64 (S : Nat))).setCell ⟨w.heap.size + 1, 3, none⟩ (.slice none 0 0)) := altAt (altAt (altAt (altAt (Alt.refl w7) _ _) _ _) _ _) _ _
                   have hA8 : Alt (fun k => KF fb (.slice (some ⟨vg, 0, none⟩) vs.length vc) k ∨ k = w.heap.size + 1) W4 ((((w7.setCell ⟨w.heap.size + 1, 0, none⟩ (.int .i64 0)).setCell ⟨w.heap.size + 1, 1, none⟩ (.int .i64 (vs.length : Nat))).setCell ⟨w.heap.size + 1, 2, none⟩ (.int .i64 (S : Nat))).setCell ⟨w.heap.size + 1, 3, none⟩ (.slice none 0 0)) := (hA7.weak fun k hk => .inl hk).trans (hA78.weak fun k hk => .inr hk)
                   have hb8 := Lib.hid ((((hb7.put 0 (.int .i64 0)).put 1 (.int .i64 (vs.length : Nat))).put 2 (.int .i64 (S : Nat))).put 3 (.slice none 0 0))
                   have hpush := fo_push hDH.out (x.put o l D) p6 (by
                     have e1 : (x.put o l D).size = S := by rw [hS.out, hsz.out]; rfl
                     have e2 : (x.put o l D).f = putB 0 o l D x.f := by
                       funext j
                       show putF o l D x.f j = _
                       unfold putF putB
                       rw [Nat.zero_add]
                     rw [e1, e2, ← hlv.out]
                     exact hT6.mono (Nat.le_refl _) fun _ _ => trivial) ((Alt.of_new hn4.out).trans hA46) hF6 (by
                     have e1 : (x.put o l D).size = S := by rw [hS.out, hsz.out]; rfl
                     rw [e1]
                     exact hp7)
                   have hend : Hid (StepP base fb (.slice (some ⟨vg, 0, none⟩) vs.length vc) (vs ++ [x.put o l D], ⟨0, vs.length, S, 0, fun _ => 0⟩) w (.returned (.agg #[.int .i64 0, .int .i64 (vs.length : Nat), .int .i64 (S : Nat), .slice none 0 0])) ((((w7.setCell ⟨w.heap.size + 1, 0, none⟩ (.int .i64 0)).setCell ⟨w.heap.size + 1, 1, none⟩ (.int .i64 (vs.length : Nat))).setCell ⟨w.heap.size + 1, 2, none⟩ (.int .i64 (S : Nat))).setCell ⟨w.heap.size + 1, 3, none⟩ (.slice none 0 0))) := by
                     obtain ⟨⟨vA', vc', rv', hFo⟩, hAw⟩ := hpush
                     exact ⟨_, vA', vc', rv', rfl, DatT.nil _ _, hFo.set hb7 (by decide) (by decide) (by decide) ⟨hA78.os, hA78.tape, hA78.output, hA78.size, fun k hk hr => hA78.same k hk fun e => hr (by rw [e])⟩, hAw.trans' hA78 fun k hk => .inr (by omega)⟩
                   clear hpush hA78 hb7 hp7))
            all_goals
              rw [← hst.out] at hend
              have q0 := hb8.out.cell 0
              have q1 := hb8.out.cell 1
              have q2 := hb8.out.cell 2
              have q3 := hb8.out.cell 3
              simp at q0 q1 q2 q3
              go_wp2
              exact bodyPost_ret (v := .agg #[.int .i64 0, .int .i64 (vs.length : Nat), .int .i64 (S : Nat), .slice none 0 0]) (by simp [results, Try.results16, go_sem, q0, q1, q2, q3]) rfl hend.out
      · by_cases hc : cnt < 0 ∨ 4096 < cnt
        · have hcH := Lib.hid hc
          by_cases hc0 : cnt < 0
          · clear hc
            go_wp2_with fail
            refine (no_any 2 _).mono ?_
            rintro x w2 ⟨rfl, hn2⟩
            dsimp only
            have hnX : New W3 w2 := by first | exact hn2 | exact New.next (New.of_drewN _ _) hn2 | exact New.next (New.refl W3).drew hn2
            have hb2 := Lib.hid (hbW.out.new hnX)
            have hend : Hid (StepP base fb (.slice (some ⟨vg, 0, none⟩) vs.length vc) (stepT vs 2 i off cnt l D) w (.returned (.agg #[.int .i64 2, .int .i64 0, .int .i64 0, .slice none 0 0])) (w2.setRow (w.heap.size + 1) #[.int .i64 2, .int .i64 0, .int .i64 0, .slice none 0 0])) := by
              rw [step_no (vs := vs) (k := 2) (v := i) (off := off) (cnt := cnt) (l := l) (D := D) (cd := 2) (cd_cnt hkH.out hvH.out rfl hcH.out)]
              exact no_end hDH.out (hnW.out.next hnX) hb2.out 2
            clear hn2 hnX
            go_wp2_with (refine wpList_store_row rfl 46 _ _ rfl (w.heap.size + 1) #[.int .i64 2, .int .i64 0, .int .i64 0, .slice none 0 0] rfl rfl 46 sho0 hb2.out infoSho4 rfl (by simp [Value.oneCell']) ?_)
            exact bodyPost_ret (v := .agg #[.int .i64 2, .int .i64 0, .int .i64 0, .slice none 0 0]) (results_cell_row Try.results16 _ _ (w.heap.size + 1) 46 _ (0, 0) _ rfl (Blk.row hb2.out #[.int .i64 2, .int .i64 0, .int .i64 0, .slice none 0 0]) Try.underlying46 rfl infoSho4) rfl hend.out
          · have hc1 : 4096 < cnt := by omega
            clear hc
            go_wp2_with fail
            refine (no_any 2 _).mono ?_
            rintro x w2 ⟨rfl, hn2⟩
            dsimp only
            have hnX : New W3 w2 := by first | exact hn2 | exact New.next (New.of_drewN _ _) hn2 | exact New.next (New.refl W3).drew hn2
            have hb2 := Lib.hid (hbW.out.new hnX)
            have hend : Hid (StepP base fb (.slice (some ⟨vg, 0, none⟩) vs.length vc) (stepT vs 2 i off cnt l D) w (.returned (.agg #[.int .i64 2, .int .i64 0, .int .i64 0, .slice none 0 0])) (w2.setRow (w.heap.size + 1) #[.int .i64 2, .int .i64 0, .int .i64 0, .slice none 0 0])) := by
              rw [step_no (vs := vs) (k := 2) (v := i) (off := off) (cnt := cnt) (l := l) (D := D) (cd := 2) (cd_cnt hkH.out hvH.out rfl hcH.out)]
              exact no_end hDH.out (hnW.out.next hnX) hb2.out 2
            clear hn2 hnX
            go_wp2_with (refine wpList_store_row rfl 46 _ _ rfl (w.heap.size + 1) #[.int .i64 2, .int .i64 0, .int .i64 0, .slice none 0 0] rfl rfl 46 sho0 hb2.out infoSho4 rfl (by simp [Value.oneCell']) ?_)
            exact bodyPost_ret (v := .agg #[.int .i64 2, .int .i64 0, .int .i64 0, .slice none 0 0]) (results_cell_row Try.results16 _ _ (w.heap.size + 1) 46 _ (0, 0) _ rfl (Blk.row hb2.out #[.int .i64 2, .int .i64 0, .int .i64 0, .slice none 0 0]) Try.underlying46 rfl infoSho4) rfl hend.out
        · have hcH := Lib.hid hc
          have hc0 : ¬ cnt < 0 := by omega
          have hc1 : ¬ 4096 < cnt := by omega
          obtain ⟨q, rfl⟩ : ∃ q : Nat, (q : Int) = cnt := ⟨cnt.toNat, by omega⟩
          have hres := Lib.hid (Resized_any fb vs.length vc sz q (some ⟨vg, 0, none⟩) p x.f W3 hf3.out hT3.out hsz4 (fun j hj => hxf.out.2 j (by rw [← hsz.out]; exact hj)) (by omega))
          have hst : Hid (stepT vs 2 i off q l D = (vs ++ [x.cut q], ⟨0, vs.length, q, 0, fun _ => 0⟩)) := by
            show _ = _
            rw [step2T (codeT_ok hkH.out hvH.out (fun h => by cases h) (fun _ => hcH.out) (fun h => by cases h)), ← hx.out]
            rfl
          clear hc
          go_wp2_with fail
          refine hres.out.mono ?_
          rintro y w5 ⟨p5, rfl, hT5, hF5, hA5⟩
          dsimp only
          have hA05 : Hid (Alt (fun k => k = fb) w w5) := (Alt.of_new hnW.out).trans hA5
          have hF5 := Lib.hid hF5
          have hadd := Lib.hid (Add_any base fb vs.length vc q (some ⟨vg, 0, none⟩) p5 (pairL rv (szV vs) vs.length) w5 hF5.out (hA5.own hvv3.out fun g hg e => by
            obtain ⟨m, hm⟩ := hf3.out
            exact own_ne_blk hvv3.out hm (by decide) (by rw [hg, e])) (by have := hn.out; omega) (Nat.le_trans hb hA05.out.size) hDH.out.lo)
          have hb5 := Lib.hid (hA5.blk hbW.out (by omega))
          clear hres
          go_wp2_with fail
          refine hadd.out.mono ?_
          rintro y w6 ⟨rfl, hp6⟩
          dsimp only
          have hpush := Lib.hid (fo_push hDH.out (x.cut q) p5 hT5 hA05.out hF5.out hp6)
          have hb6 := Lib.hid (hp6.2.blk hb5.out (by
            rintro (h1 | h1)
            · omega
            · have := (hDH.out.vo.lt _ h1).2; omega))
          have hend := Lib.hid (push_end (vs := vs ++ [x.cut q]) (n := vs.length) hpush.out hb6.out q (fun _ => 0))
          rw [← hst.out] at hend
          clear hp6 hT5 hA5 hadd
          go_wp2_with (refine wpList_store_row rfl 46 _ _ rfl (w.heap.size + 1) #[.int .i64 0, .int .i64 (vs.length : Nat), .int .i64 (q : Nat), .slice none 0 0] rfl rfl 46 sho0 hb6.out infoSho4 rfl (by simp [Value.oneCell']) ?_)
          exact bodyPost_ret (v := .agg #[.int .i64 0, .int .i64 (vs.length : Nat), .int .i64 (q : Nat), .slice none 0 0]) (results_cell_row Try.results16 _ _ (w.heap.size + 1) 46 _ (0, 0) _ rfl (Blk.row hb6.out #[.int .i64 0, .int .i64 (vs.length : Nat), .int .i64 (q : Nat), .slice none 0 0]) Try.underlying46 rfl infoSho4) rfl hend.out
      · by_cases hc : off < 0 ∨ cnt < 0
        · have hcH := Lib.hid hc
          by_cases hc0 : off < 0
          · clear hc
            go_wp2_with fail
            refine (no_any 2 _).mono ?_
            rintro x w2 ⟨rfl, hn2⟩
            dsimp only
            have hnX : New W3 w2 := by first | exact hn2 | exact New.next (New.of_drewN _ _) hn2 | exact New.next (New.refl W3).drew hn2
            have hb2 := Lib.hid (hbW.out.new hnX)
            have hend : Hid (StepP base fb (.slice (some ⟨vg, 0, none⟩) vs.length vc) (stepT vs 3 i off cnt l D) w (.returned (.agg #[.int .i64 2, .int .i64 0, .int .i64 0, .slice none 0 0])) (w2.setRow (w.heap.size + 1) #[.int .i64 2, .int .i64 0, .int .i64 0, .slice none 0 0])) := by
              rw [step_no (vs := vs) (k := 3) (v := i) (off := off) (cnt := cnt) (l := l) (D := D) (cd := 2) (cd_read hkH.out hvH.out rfl hcH.out)]
              exact no_end hDH.out (hnW.out.next hnX) hb2.out 2
            clear hn2 hnX
            go_wp2_with (refine wpList_store_row rfl 46 _ _ rfl (w.heap.size + 1) #[.int .i64 2, .int .i64 0, .int .i64 0, .slice none 0 0] rfl rfl 46 sho0 hb2.out infoSho4 rfl (by simp [Value.oneCell']) ?_)
            exact bodyPost_ret (v := .agg #[.int .i64 2, .int .i64 0, .int .i64 0, .slice none 0 0]) (results_cell_row Try.results16 _ _ (w.heap.size + 1) 46 _ (0, 0) _ rfl (Blk.row hb2.out #[.int .i64 2, .int .i64 0, .int .i64 0, .slice none 0 0]) Try.underlying46 rfl infoSho4) rfl hend.out
          · have hc1 : cnt < 0 := by omega
            clear hc
            go_wp2_with fail
            refine (no_any 2 _).mono ?_
            rintro x w2 ⟨rfl, hn2⟩
            dsimp only
            have hnX : New W3 w2 := by first | exact hn2 | exact New.next (New.of_drewN _ _) hn2 | exact New.next (New.refl W3).drew hn2
            have hb2 := Lib.hid (hbW.out.new hnX)
            have hend : Hid (StepP base fb (.slice (some ⟨vg, 0, none⟩) vs.length vc) (stepT vs 3 i off cnt l D) w (.returned (.agg #[.int .i64 2, .int .i64 0, .int .i64 0, .slice none 0 0])) (w2.setRow (w.heap.size + 1) #[.int .i64 2, .int .i64 0, .int .i64 0, .slice none 0 0])) := by
              rw [step_no (vs := vs) (k := 3) (v := i) (off := off) (cnt := cnt) (l := l) (D := D) (cd := 2) (cd_read hkH.out hvH.out rfl hcH.out)]
              exact no_end hDH.out (hnW.out.next hnX) hb2.out 2
            clear hn2 hnX
            go_wp2_with (refine wpList_store_row rfl 46 _ _ rfl (w.heap.size + 1) #[.int .i64 2, .int .i64 0, .int .i64 0, .slice none 0 0] rfl rfl 46 sho0 hb2.out infoSho4 rfl (by simp [Value.oneCell']) ?_)
            exact bodyPost_ret (v := .agg #[.int .i64 2, .int .i64 0, .int .i64 0, .slice none 0 0]) (results_cell_row Try.results16 _ _ (w.heap.size + 1) 46 _ (0, 0) _ rfl (Blk.row hb2.out #[.int .i64 2, .int .i64 0, .int .i64 0, .slice none 0 0]) Try.underlying46 rfl infoSho4) rfl hend.out
        · have hcH := Lib.hid hc
          have hc0 : ¬ off < 0 := by omega
          have hc1 : ¬ cnt < 0 := by omega
          obtain ⟨o, rfl⟩ : ∃ o : Nat, (o : Int) = off := ⟨off.toNat, by omega⟩
          obtain ⟨q, rfl⟩ : ∃ q : Nat, (q : Int) = cnt := ⟨cnt.toNat, by omega⟩
          have hst : Hid (stepT vs 3 i o q l D = (vs, x.show o q)) := by
            show _ = _
            rw [step3T (codeT_ok hkH.out hvH.out (fun h => by cases h) (fun h => by cases h) (fun _ => hcH.out)), ← hx.out]
            rfl
          have hsh : Hid (∀ w', New W3 w' → Calls Try.prog 27 #[.agg #[.pointer p, .int .i64 (sz : Nat)], .int .i64 (o : Nat), .int .i64 (q : Nat)] w' fun e w'' => (∃ v', e = .returned v' ∧ DatT w'' v' (if sz ≤ o then 0 else min q (sz - o)) (fun j => x.f (o + j))) ∧ New w' w'') := fun w' hn => Show_any sz o q vs.length (.pointer p) _ x.f w' (hT3.out.new hn) hsz4
          have hkeep : Hid (∀ w', New W3 w' → w'.cell? ⟨vb, 0, none⟩ = some (.pointer p) ∧ w'.cell? ⟨vb, 1, none⟩ = some (.int .i64 (sz : Nat)) ∧ w'.cell? ⟨w.heap.size, 2, none⟩ = some (.int .i64 (o : Nat)) ∧ w'.cell? ⟨w.heap.size, 3, none⟩ = some (.int .i64 (q : Nat))) := fun w' hn' =>
            ⟨(hn'.cell (lt_of_cell v0)).trans v0, (hn'.cell (lt_of_cell v1)).trans v1, (hn'.cell (lt_of_cell s2)).trans s2, (hn'.cell (lt_of_cell s3)).trans s3⟩
          obtain ⟨ln, hln⟩ : ∃ ln, Hid (ln = if sz ≤ o then 0 else min q (sz - o)) := ⟨_, rfl⟩
          rw [← hln.out] at hsh
          clear hc
          go_wp2_with fail
          go_region_held3 (fun w' => w'.cell? ⟨vb, 0, none⟩ = some (.pointer p) ∧ w'.cell? ⟨vb, 1, none⟩ = some (.int .i64 (sz : Nat)) ∧ w'.cell? ⟨w.heap.size, 2, none⟩ = some (.int .i64 (o : Nat)) ∧ w'.cell? ⟨w.heap.size, 3, none⟩ = some (.int .i64 (q : Nat)))
            (first
              | exact hkeep.out _ (New.refl _).drew
              | assumption
              | exact hkeep.out _ hn5
              | exact hS6)
            (first
              | (go_at_call 27; refine (hsh.out _ (New.refl _).drew).mono ?_; rintro y w5 ⟨⟨dv, rfl, hdv⟩, hn5'⟩; obtain ⟨A5, c5, rfl, hd1, hd2, hd3⟩ := hdv; have hn5 : New W3 w5 := New.next (New.refl _).drew hn5'; have hb5 := hbW.out.new hn5
                 have r0 := hb5.cell 0
                 have r1 := hb5.cell 1
                 have r2 := hb5.cell 2
                 have r3 := hb5.cell 3
                 have z0 := hb5.frozen 0
                 have z1 := hb5.frozen 1
                 have z2 := hb5.frozen 2
                 have z3 := hb5.frozen 3
                 simp at r0 r1 r2 r3
                 have hA6 : Alt (fun k => k = w.heap.size + 1) w5 ((((w5.setCell ⟨w.heap.size + 1, 0, none⟩ (.int .i64 0)).setCell ⟨w.heap.size + 1, 1, none⟩ (.int .i64 0)).setCell ⟨w.heap.size + 1, 2, none⟩ (.int .i64 (sz : Nat))).setCell ⟨w.heap.size + 1, 3, none⟩ (.slice A5 ln c5)) := altAt (altAt (altAt (altAt (Alt.refl w5) _ _) _ _) _ _) _ _
                 have hS6 : ((((w5.setCell ⟨w.heap.size + 1, 0, none⟩ (.int .i64 0)).setCell ⟨w.heap.size + 1, 1, none⟩ (.int .i64 0)).setCell ⟨w.heap.size + 1, 2, none⟩ (.int .i64 (sz : Nat))).setCell ⟨w.heap.size + 1, 3, none⟩ (.slice A5 ln c5)).cell? ⟨vb, 0, none⟩ = some (.pointer p) ∧ ((((w5.setCell ⟨w.heap.size + 1, 0, none⟩ (.int .i64 0)).setCell ⟨w.heap.size + 1, 1, none⟩ (.int .i64 0)).setCell ⟨w.heap.size + 1, 2, none⟩ (.int .i64 (sz : Nat))).setCell ⟨w.heap.size + 1, 3, none⟩ (.slice A5 ln c5)).cell? ⟨vb, 1, none⟩ = some (.int .i64 (sz : Nat)) ∧ ((((w5.setCell ⟨w.heap.size + 1, 0, none⟩ (.int .i64 0)).setCell ⟨w.heap.size + 1, 1, none⟩ (.int .i64 0)).setCell ⟨w.heap.size + 1, 2, none⟩ (.int .i64 (sz : Nat))).setCell ⟨w.heap.size + 1, 3, none⟩ (.slice A5 ln c5)).cell? ⟨w.heap.size, 2, none⟩ = some (.int .i64 (o : Nat)) ∧ ((((w5.setCell ⟨w.heap.size + 1, 0, none⟩ (.int .i64 0)).setCell ⟨w.heap.size + 1, 1, none⟩ (.int .i64 0)).setCell ⟨w.heap.size + 1, 2, none⟩ (.int .i64 (sz : Nat))).setCell ⟨w.heap.size + 1, 3, none⟩ (.slice A5 ln c5)).cell? ⟨w.heap.size, 3, none⟩ = some (.int .i64 (q : Nat)) := by
                   obtain ⟨u0, u1, u2, u3⟩ := hkeep.out w5 hn5
                   exact ⟨hA6.cell u0 (fun e => by have e : vb = w.heap.size + 1 := e; omega), hA6.cell u1 (fun e => by have e : vb = w.heap.size + 1 := e; omega), hA6.cell u2 (fun e => by have e : w.heap.size = w.heap.size + 1 := e; omega), hA6.cell u3 (fun e => by have e : w.heap.size = w.heap.size + 1 := e; omega)⟩
                 have hb6 := Lib.hid ((((hb5.put 0 (.int .i64 0)).put 1 (.int .i64 0)).put 2 (.int .i64 (sz : Nat))).put 3 (.slice A5 ln c5))
                 have hD5 : DatT w5 (.slice A5 ln c5) ln (fun j => x.f (o + j)) := ⟨A5, c5, rfl, hd1, hd2, hd3⟩
                 have hend : Hid (StepP base fb (.slice (some ⟨vg, 0, none⟩) vs.length vc) (vs, x.show o q) w (.returned (.agg #[.int .i64 0, .int .i64 0, .int .i64 (sz : Nat), .slice A5 ln c5])) ((((w5.setCell ⟨w.heap.size + 1, 0, none⟩ (.int .i64 0)).setCell ⟨w.heap.size + 1, 1, none⟩ (.int .i64 0)).setCell ⟨w.heap.size + 1, 2, none⟩ (.int .i64 (sz : Nat))).setCell ⟨w.heap.size + 1, 3, none⟩ (.slice A5 ln c5))) := by
                   refine ⟨.slice A5 ln c5, some ⟨vg, 0, none⟩, vc, rv, ?_, ?_, (hDH.out.new (hnW.out.next hn5)).set hb5 (by decide) (by decide) (by decide) ⟨hA6.os, hA6.tape, hA6.output, hA6.size, fun k hk hr => hA6.same k hk fun e => hr (by rw [e])⟩, ((Alt.of_new (hnW.out.next hn5)).trans' hA6 fun i hi => .inr (by omega))⟩
                   · rw [hsz.out]; rfl
                   · show DatT _ _ (if x.size ≤ o then 0 else min q (x.size - o)) _
                     rw [← hsz.out, ← hln.out]
                     exact hD5.alt hA6 fun b cs hb e => blk_ne' hb hb5 (by decide) e
                 clear hA6 hb5 hd1 hd2 hd3 hD5))
          all_goals
            rw [← hst.out] at hend
            have q0 := hb6.out.cell 0
            have q1 := hb6.out.cell 1
            have q2 := hb6.out.cell 2
            have q3 := hb6.out.cell 3
            simp at q0 q1 q2 q3
            go_wp2
            exact bodyPost_ret (v := .agg #[.int .i64 0, .int .i64 0, .int .i64 (sz : Nat), .slice A5 ln c5]) (by simp [results, Try.results16, go_sem, q0, q1, q2, q3]) rfl hend.out
end Go.Proofs.Ytiffgeglbafenaa.tree
