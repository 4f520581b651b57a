/-
  What the reference's Does hands back: an answer, a model.
-/
import Derived.Test.YtmpaheaedaeakaaPoolRefSome
namespace Go.Proofs.Ytmpaheaedaeakaa.pool
open Go.ChangeShapes Go.WideShapes Go.ChangeAt Go.RowKit Go.Proofs.Ytmpaheaedaeakaa.kit Go.Deep Go.Maps
set_option linter.unusedVariables false
set_option maxRecDepth 100000
/-- what is handed back -/
def MdP (t : Td) (s : PS) (w : World) (e : Ending) (w' : World) : Prop := ∃ a tv sv, e = .returned (.tuple #[a, .agg #[tv, sv]]) ∧ TdV w' a t ∧ TL w' tv s.ths ∧ SL w' sv s.shs ∧ New w w'
abbrev putM (W : World) (p q : Nat) (a0 a1 a2 a3 a4 t s : Value) : World := ((put5 W p a0 a1 a2 a3 a4).setCell ⟨q, 0, none⟩ t).setCell ⟨q, 1, none⟩ s
theorem putM_alt (W : World) (p q : Nat) (a0 a1 a2 a3 a4 t s : Value) : Alt (fun k => k = p ∨ k = q) W (putM W p q a0 a1 a2 a3 a4 t s) :=
  Alt.set (K := fun k => k = p ∨ k = q) (Alt.set (K := fun k => k = p ∨ k = q) ((put5_alt W p a0 a1 a2 a3 a4).weak fun k h => .inl h) (.inl (.inr rfl)) t) (.inl (.inr rfl)) s
theorem LL.alt {α : Type} [Inhabited α] {rd rd' : Value → α → Prop} {w w' : World} {v : Value} {l : List (Nm × α)} (h : LL rd w v l) {K : Nat → Prop} (ha : Alt K w w') (hK : ∀ g o x, K g → w.cell? ⟨g, o, none⟩ ≠ some (encStr x)) (hr : ∀ v y, rd v y → rd' v y) : LL rd' w' v l := by
  obtain ⟨A, c, U, h1, h2, h3, h4, h5, h6⟩ := h
  refine ⟨A, c, U, h1, h2, h3, h4, fun h0 => ?_, fun i hi => ⟨hr _ _ (h6 i hi).1, (h6 i hi).2⟩⟩
  obtain ⟨g, off, e, hg, hc⟩ := h5 h0
  have hkg : ¬ K g := fun hk => hK g _ _ hk (hc 0 h0).1
  exact ⟨g, off, e, Nat.lt_of_lt_of_le hg ha.size, fun i hi => ⟨ha.cell (hc i hi).1 hkg, ha.cell (hc i hi).2 hkg⟩⟩
section
variable {w W : World} {p q : Nat}
theorem MdP.drew {t : Td} {s : PS} {e : Ending} (h : MdP t s w e W) : MdP t s w e W.drew := by
  obtain ⟨a, tv, sv, h1, h2, h3, h4, h5⟩ := h
  have hn := (New.refl W).drew
  exact ⟨a, tv, sv, h1, h2.new hn, TL.new h3 hn, SL.new h4 hn, h5.drew⟩
theorem zeros_ne (hp : Blk W p 37 #[.int .i64 0, .bool false, .int .i64 0, .slice none 0 0, .slice none 0 0]) (hq : Blk W q 42 #[.slice none 0 0, .slice none 0 0]) (g o : Nat) (x : Nm) (h : g = p ∨ g = q) : W.cell? ⟨g, o, none⟩ ≠ some (encStr x) := by
  rcases h with h | h
  · subst h
    rw [hp.cell]
    match o with
    | 0 | 1 | 2 | 3 | 4 => simp [encStr]
    | o + 5 => simp
  · subst h
    rw [hq.cell]
    match o with
    | 0 | 1 => simp [encStr]
    | o + 2 => simp
theorem md_fin {a0 a1 a2 a3 a4 tv sv : Value} {t : Td} {s : PS} (hp : Blk W p 37 #[.int .i64 0, .bool false, .int .i64 0, .slice none 0 0, .slice none 0 0]) (hq : Blk W q 42 #[.slice none 0 0, .slice none 0 0]) (hpg : w.heap.size ≤ p) (hqg : w.heap.size ≤ q) (hN : New w W)
    (ht : TdV W (.agg #[a0, a1, a2, a3, a4]) t) (h1 : TL W tv s.ths) (h2 : SL W sv s.shs) : MdP t s w (.returned (.tuple #[.agg #[a0, a1, a2, a3, a4], .agg #[tv, sv]])) (putM W p q a0 a1 a2 a3 a4 tv sv) := by
  have ha := putM_alt W p q a0 a1 a2 a3 a4 tv sv
  have hb : ∀ v b, Bs W v b → Bs (putM W p q a0 a1 a2 a3 a4 tv sv) v b := fun v b h => h.alt ha fun g cs hb e => by
    rcases e with e | e
    · subst e; exact blk_ne' hb hp (by decide) rfl
    · subst e; exact blk_ne' hb hq (by decide) rfl
  have hl : ∀ v l, TL W v l → TL (putM W p q a0 a1 a2 a3 a4 tv sv) v l := fun v l h => LL.alt h ha (fun g o x hk => zeros_ne hp hq g o x hk) hb
  refine ⟨_, _, _, rfl, ht.alt ha (fun g cs hk e => ?_) (fun g cs hk e => ?_), hl _ _ h1, LL.alt h2 ha (fun g o x hk => zeros_ne hp hq g o x hk) hl, hN.trans (ha.below hN.size fun k hk => by omega)⟩
  · rcases e with e | e
    · subst e; exact blk_ne' hk hp (by decide) rfl
    · subst e; exact blk_ne' hk hq (by decide) rfl
  · rcases e with e | e
    · subst e; exact blk_ne' hk hp (by decide) rfl
    · subst e; exact blk_ne' hk hq (by decide) rfl
/-- what is read back of the two -/
abbrev OutC (W : World) (p q : Nat) : Prop := ∀ a0 a1 a2 a3 a4 t s, (putM W p q a0 a1 a2 a3 a4 t s).cell? ⟨p, 0, none⟩ = some a0 ∧ (putM W p q a0 a1 a2 a3 a4 t s).cell? ⟨p, 1, none⟩ = some a1 ∧ (putM W p q a0 a1 a2 a3 a4 t s).cell? ⟨p, 2, none⟩ = some a2 ∧ (putM W p q a0 a1 a2 a3 a4 t s).cell? ⟨p, 3, none⟩ = some a3 ∧ (putM W p q a0 a1 a2 a3 a4 t s).cell? ⟨p, 4, none⟩ = some a4 ∧ (putM W p q a0 a1 a2 a3 a4 t s).cell? ⟨q, 0, none⟩ = some t ∧ (putM W p q a0 a1 a2 a3 a4 t s).cell? ⟨q, 1, none⟩ = some s
theorem out_cells (hp : Blk W p 37 #[.int .i64 0, .bool false, .int .i64 0, .slice none 0 0, .slice none 0 0]) (hq : Blk W q 42 #[.slice none 0 0, .slice none 0 0]) (hne : p ≠ q) :
    (W.cell? ⟨p, 0, none⟩ = some (.int .i64 0) ∧ W.cell? ⟨p, 1, none⟩ = some (.bool false) ∧ W.cell? ⟨p, 2, none⟩ = some (.int .i64 0) ∧ W.cell? ⟨p, 3, none⟩ = some (.slice none 0 0) ∧ W.cell? ⟨p, 4, none⟩ = some (.slice none 0 0)) ∧
    (W.frozen? ⟨p, 0, none⟩ = false ∧ W.frozen? ⟨p, 1, none⟩ = false ∧ W.frozen? ⟨p, 2, none⟩ = false ∧ W.frozen? ⟨p, 3, none⟩ = false ∧ W.frozen? ⟨p, 4, none⟩ = false) ∧
    (W.cell? ⟨q, 0, none⟩ = some (.slice none 0 0) ∧ W.cell? ⟨q, 1, none⟩ = some (.slice none 0 0) ∧ W.frozen? ⟨q, 0, none⟩ = false ∧ W.frozen? ⟨q, 1, none⟩ = false) ∧ Hid (OutC W p q) := by
  have key : ∀ W : World, Blk W p 37 #[.int .i64 0, .bool false, .int .i64 0, .slice none 0 0, .slice none 0 0] → Blk W q 42 #[.slice none 0 0, .slice none 0 0] → OutC W p q := fun W hp hq a0 a1 a2 a3 a4 t s => by
    have hb := ((((((hp.put 0 a0).put 1 a1).put 2 a2).put 3 a3).put 4 a4).far (p := ⟨q, 0, none⟩) hne t).far (p := ⟨q, 1, none⟩) hne s
    have hq2 : Blk (put5 W p a0 a1 a2 a3 a4) q 42 #[.slice none 0 0, .slice none 0 0] := (put5_alt W p a0 a1 a2 a3 a4).blk hq fun e => hne e.symm
    have hb2 := (hq2.put 0 t).put 1 s
    have x0 := hb.cell 0
    have x1 := hb.cell 1
    have x2 := hb.cell 2
    have x3 := hb.cell 3
    have x4 := hb.cell 4
    have x5 := hb2.cell 0
    have x6 := hb2.cell 1
    simp at x0 x1 x2 x3 x4 x5 x6
    exact ⟨x0, x1, x2, x3, x4, x5, x6⟩
  have r0 := hp.cell 0
  have r1 := hp.cell 1
  have r2 := hp.cell 2
  have r3 := hp.cell 3
  have r4 := hp.cell 4
  have r5 := hq.cell 0
  have r6 := hq.cell 1
  simp at r0 r1 r2 r3 r4 r5 r6
  exact ⟨⟨r0, r1, r2, r3, r4⟩, ⟨hp.frozen 0, hp.frozen 1, hp.frozen 2, hp.frozen 3, hp.frozen 4⟩, ⟨r5, r6, hq.frozen 0, hq.frozen 1⟩, Lib.hid (key W hp hq)⟩
end
theorem TdV.full {w : World} {v : Value} {t : Td} (h : TdV w v t) : ∃ A n k B m j, v = .agg #[.int .i64 t.code, .bool false, .int .i64 (t.size : Nat), .slice A n k, .slice B m j] := by
  obtain ⟨dv, nv, rfl, h1, h2⟩ := h
  obtain ⟨A, k, rfl, _⟩ := h1.read
  obtain ⟨B, j, rfl, _⟩ := own_open h2
  exact ⟨_, _, _, _, _, _, rfl⟩
/-- the closure that refuses -/
theorem refuse_any (e : Int) (b : Nat) (tv sv : Value) (s : PS) (w : World) (hb : Blk w b 42 #[tv, sv]) (h1 : TL w tv s.ths) (h2 : SL w sv s.shs) :
    Calls Try.prog 17 #[.int .i64 e, ptr b] w (MdP (Td.no e) s w) := by
  obtain ⟨A, c, rfl⟩ := h1.form
  obtain ⟨B, d, rfl⟩ := h2.form
  obtain ⟨n1, hn1⟩ : ∃ n1, n1 = s.ths.length := ⟨_, rfl⟩
  obtain ⟨n2, hn2⟩ : ∃ n2, n2 = s.shs.length := ⟨_, rfl⟩
  rw [← hn1, ← hn2] at hb
  rw [← hn1] at h1
  rw [← hn2] at h2
  clear hn1 hn2
  obtain ⟨W1, hW1⟩ : ∃ W1, W1 = (w.alloc (.cells #[.int .i64 0, .bool false, .int .i64 0, .slice none 0 0, .slice none 0 0] 37)).alloc (.cells #[.slice none 0 0, .slice none 0 0] 42) := ⟨_, rfl⟩
  have hN1 : New w W1 := by rw [hW1]; exact ((New.refl w).alloc _).alloc _
  have hp : Blk W1 w.heap.size 37 #[.int .i64 0, .bool false, .int .i64 0, .slice none 0 0, .slice none 0 0] := by rw [hW1]; exact (Blk.fresh w _ _).alloc _
  have hq : Blk W1 (w.heap.size + 1) 42 #[.slice none 0 0, .slice none 0 0] := by
    have hg := Blk.fresh (w.alloc (.cells #[.int .i64 0, .bool false, .int .i64 0, .slice none 0 0, .slice none 0 0] 37)) 42 #[.slice none 0 0, .slice none 0 0]
    rw [hW1]
    simpa using hg
  obtain ⟨⟨r0, r1, r2, r3, r4⟩, ⟨y0, y1, y2, y3, y4⟩, ⟨r5, r6, y5, y6⟩, hx⟩ := out_cells hp hq (by omega)
  have hb1 := hb.new hN1
  have b0 := hb1.cell 0
  have b1 := hb1.cell 1
  simp at b0 b1
  have hf : Hid (MdP (Td.no e) s w (.returned (.tuple #[.agg #[.int .i64 e, .bool false, .int .i64 0, .slice none 0 0, .slice none 0 0], .agg #[.slice A n1 c, .slice B n2 d]])) (putM W1 w.heap.size (w.heap.size + 1) (.int .i64 e) (.bool false) (.int .i64 0) (.slice none 0 0) (.slice none 0 0) (.slice A n1 c) (.slice B n2 d)).drew) :=
    (md_fin (W := W1) hp hq (Nat.le_refl _) (Nat.le_succ _) hN1 (TdV.no _ _) (TL.new h1 hN1) (SL.new h2 hN1)).drew
  have hlt := hb.lt
  have e1 : ¬ b = w.heap.size := by omega
  have e2 : ¬ b = w.heap.size + 1 := by omega
  have e3 : ¬ w.heap.size = b := by omega
  have e4 : ¬ w.heap.size + 1 = b := by omega
  clear hb hb1 hp hq hN1 h1 h2 hlt
  go_enter Try.func17, Try.ntmps17
  go_upto_region 1 with fail
  rw [← hW1]
  clear hW1
  go_wp2
  go_region
  all_goals go_wp2
  all_goals exact bodyPost_ret (by simp [results, Try.results17, go_sem, hx.out]) rfl hf.out
end Go.Proofs.Ytmpaheaedaeakaa.pool
