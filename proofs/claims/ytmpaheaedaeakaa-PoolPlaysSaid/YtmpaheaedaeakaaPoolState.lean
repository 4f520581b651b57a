/-
  A pool's state in memory: what each write leaves; room.
-/
import Derived.Test.YtmpaheaedaeakaaPoolWrite
namespace Go.Proofs.Ytmpaheaedaeakaa.pool
open Go.ChangeShapes Go.WideShapes Go.ChangeAt Go.RowKit Go.Proofs.Ytmpaheaedaeakaa.kit Go.Deep Go.Maps
set_option linter.unusedVariables false
set_option maxRecDepth 100000
theorem zeroF (w : World) : (zeroValue 32).run Try.prog w = .ok (.slice none 0 0) w := by kernel_rfl
theorem zeroO (w : World) : (zeroValue 47).run Try.prog w = .ok (.map none) w := by kernel_rfl
abbrev tM : TypeId := 46
abbrev tO : TypeId := 47
abbrev tS : TypeId := 48
section
variable {base sb ob nb c : Nat} {s : PS} {w w' : World}
theorem Sn.alt {v : Value} {l : Ths} (h : Sn base ob nb c w v l) {K : Nat → Prop} (ha : Alt K w w') (h1 : ∀ g cs, Blk w g 5 cs → ¬ K g) (h2 : ∀ b, base ≤ b → b ≠ ob → b ≠ nb → (∃ es k, w.heap[b]? = some (.map es k)) → ¬ K b) : Sn base ob nb c w' v l := by
  obtain ⟨b, h3, h4, h5, h6, h7⟩ := h
  exact ⟨b, h3, h4, h5, h6, h7.alt ha (h2 b h6 h4 h5 h7.obj) fun k y _ v hv => hv.alt ha h1⟩
theorem Sn.mono {v : Value} {l : Ths} (h : Sn base ob nb c w v l) {c' : Nat} (hc : c ≤ c') : Sn base ob nb c' w v l := by
  obtain ⟨b, h3, h4, h5, h6, h7⟩ := h
  exact ⟨b, h3, h4, h5, h6, h7.mono hc⟩
theorem MP.weak {α : Type} {rd rd' : Value → α → Prop} {w : World} {b c : Nat} {l : List (Nm × α)} (h : MP rd w b c l) (hr : ∀ k y, get l k = some y → ∀ v, rd v y → rd' v y) : MP rd' w b c l :=
  h.alt (K := fun _ => False) (Alt.refl w) (fun f => f) hr
theorem St.mono (h : St base sb ob nb c s w) {c' : Nat} (hc : c ≤ c') : St base sb ob nb c' s w :=
  ⟨h.bk, h.om.mono hc, (h.nm.weak fun _ _ _ _ hv => hv.mono hc).mono hc, h.ge, h.ne⟩
theorem St.alt (h : St base sb ob nb c s w) {K : Nat → Prop} (ha : Alt K w w') (h0 : ¬ K sb) (h1 : ∀ g cs, Blk w g 5 cs → ¬ K g) (h2 : ∀ b, (∃ es k, w.heap[b]? = some (.map es k)) → ¬ K b) : St base sb ob nb c s w' :=
  ⟨ha.blk h.bk h0, h.om.alt ha (h2 _ h.om.obj) fun _ _ _ _ hv => hv.alt ha h1, h.nm.alt ha (h2 _ h.nm.obj) fun _ _ _ _ hv => hv.alt ha h1 fun b _ _ _ hm => h2 b hm, h.ge, h.ne⟩
theorem St.new (h : St base sb ob nb c s w) (hn : New w w') : St base sb ob nb c s w' := h.alt (K := fun _ => False) (Alt.of_new hn) (fun f => f) (fun _ _ _ f => f) fun _ _ f => f
theorem blk_not_map {g : Nat} {t : TypeId} {cs : Array Value} (h : Blk w g t cs) {b : Nat} (hm : ∃ es k, w.heap[b]? = some (.map es k)) : b ≠ g := fun e => by
  subst e
  obtain ⟨es, k, h1⟩ := hm
  unfold Blk at h
  rw [h] at h1
  cases h1
/-- a block of another type is no part of what is written -/
theorem St.apart (h : St base sb ob nb c s w) {g : Nat} {t : TypeId} {cs : Array Value} (hb : Blk w g t cs) (ht : t ≠ 50) : ¬ PK sb ob nb g := by
  rintro (rfl | rfl | rfl)
  · exact blk_ne' hb h.bk ht rfl
  · exact blk_not_map hb h.om.obj rfl
  · exact blk_not_map hb h.nm.obj rfl
theorem St.lt (h : St base sb ob nb c s w) {k : Nat} (hk : PK sb ob nb k) : base ≤ k ∧ k < w.heap.size := by
  rcases hk with rfl | rfl | rfl
  · exact ⟨h.ge.1, h.bk.lt⟩
  · exact ⟨h.ge.2.1, h.om.lt⟩
  · exact ⟨h.ge.2.2, h.nm.lt⟩
/-- a cell of a block of another type is written -/
theorem St.set (h : St base sb ob nb c s w) {g k : Nat} {t : TypeId} {cs : Array Value} (hb : Blk w g t cs) (h1 : t ≠ 50) (h2 : t ≠ 5) (u : Value) : St base sb ob nb c s (w.setCell ⟨g, k, none⟩ u) :=
  h.alt (K := fun x => x = g) (Alt.set (K := fun x => x = g) (Alt.refl w) (.inl rfl) u) (fun e => blk_ne' hb h.bk h1 e.symm) (fun g' cs' hb' e => blk_ne' hb' hb (Ne.symm h2) e) fun b hm e => blk_not_map hb hm e
/-- an object is put, or struck -/
theorem St.objs (h : St base sb ob nb c s w) (hg : w.grownBy w' (some ob)) {l : Ths} {c' : Nat} (hc : c ≤ c') (hm : MP (Bs w') w' ob c' l) : St base sb ob nb c' ⟨l, s.shs⟩ w' := by
  have ha : Alt (fun k => some ob = some k) w w' := Alt.grown (Alt.refl w) hg fun r e => .inl e
  have hne : ∀ g cs t, Blk w g t cs → ¬ (some ob = some g) := fun g cs t hb e => blk_not_map hb h.om.obj (Option.some.inj e)
  refine ⟨ha.blk h.bk (hne _ _ _ h.bk), hm, (h.nm.alt (rd' := Sn base ob nb c' w') ha (fun e => h.ne (Option.some.inj e)) fun _ _ _ _ hv => (hv.alt ha (fun g cs hb => hne g cs _ hb) fun b _ h1 _ _ e => h1 (Option.some.inj e).symm).mono hc).mono hc, h.ge, h.ne⟩
/-- a snapshot is put, or struck -/
theorem St.snps (h : St base sb ob nb c s w) (hg : w.grownBy w' (some nb)) {l : List (Nm × Ths)} {c' : Nat} (hc : c ≤ c') (hm : MP (Sn base ob nb c' w') w' nb c' l) : St base sb ob nb c' ⟨s.ths, l⟩ w' := by
  have ha : Alt (fun k => some nb = some k) w w' := Alt.grown (Alt.refl w) hg fun r e => .inl e
  have hne : ∀ g cs t, Blk w g t cs → ¬ (some nb = some g) := fun g cs t hb e => blk_not_map hb h.nm.obj (Option.some.inj e)
  exact ⟨ha.blk h.bk (hne _ _ _ h.bk), (h.om.alt (rd' := Bs w') ha (fun e => h.ne (Option.some.inj e).symm) fun _ _ _ _ hv => hv.alt ha fun g cs hb => hne g cs _ hb).mono hc, hm, h.ge, h.ne⟩
/-- other objects are laid -/
theorem St.back (h : St base sb ob nb c s w) {b : Nat} {l : Ths} (hb : base ≤ b) (hnew : ∀ v y, Sn base ob nb c w v y → v ≠ .map (some b)) (hbn : b ≠ nb) (hm : MP (Bs w) w b c l) : St base sb b nb c ⟨l, s.shs⟩ (w.setCell ⟨sb, 0, none⟩ (.map (some b))) := by
  have ha : Alt (fun k => k = sb) w (w.setCell ⟨sb, 0, none⟩ (.map (some b))) := Alt.set (K := fun k => k = sb) (Alt.refl w) (.inl rfl) _
  have h1 : ∀ g cs, Blk w g 5 cs → ¬ g = sb := fun g cs hb' e => blk_ne' hb' h.bk (by decide) e
  have h2 : ∀ b, (∃ es k, w.heap[b]? = some (.map es k)) → ¬ b = sb := fun b hm' e => blk_not_map h.bk hm' e
  refine ⟨h.bk.put 0 _, hm.alt ha (h2 _ hm.obj) fun _ _ _ _ hv => hv.alt ha h1, h.nm.alt ha (h2 _ h.nm.obj) fun k y hy v hv => ?_, ⟨h.ge.1, hb, h.ge.2.2⟩, hbn⟩
  have hne := hnew v y hv
  obtain ⟨b', e, h3, h4, h5, h6⟩ := hv
  exact ⟨b', e, fun e' => hne (by rw [e, e']), h4, h5, h6.alt ha (h2 _ h6.obj) fun _ _ _ _ hv => hv.alt ha h1⟩
end
/-- may there be one more -/
theorem room_obj {rd : Value → By → Prop} (b c most : Nat) (x : Nm) (l : Ths) (w : World) (h : MP rd w b c l) (hx : x.length ≤ maxLen) (hm : most ≤ 1000) (hl : l.length ≤ 1000) :
    Calls Try.prog 11 #[.map (some b), encStr x, .int .i64 (most : Nat)] w fun e w' => e = .returned (.int .i64 (roomT l x most)) ∧ New w w' := by
  obtain ⟨v, hlk, _, _⟩ := h.look Try.underlying46 (zeroF w) hx
  have hname := Lib.hid (Name_any x hx)
  have hH := Lib.hid h
  clear h
  obtain ⟨hs, hhs⟩ : ∃ hs, Hid (hs = (get l x).isSome) := ⟨_, rfl⟩
  rw [← hhs.out] at hlk
  obtain ⟨gd, hgd⟩ : ∃ gd, Hid (gd = goodN x) := ⟨_, rfl⟩
  rw [← hgd.out] at hname
  have hr : Hid (roomT l x most = if gd = false then 4 else if hs = true then 7 else if l.length = most then 8 else 0) := by
    show _ = _
    unfold roomT
    rw [hgd.out, hhs.out]
  go_enter Try.func11, Try.ntmps11
  cases gd with
  | false =>
    go_wp2_with (go_at_call 25; refine (hname.out _).mono ?_; rintro e w2 ⟨rfl, hn2⟩)
    exact bodyPost_ret (v := .int .i64 4) (by simp [results, Try.results11, go_sem]) rfl ⟨by rw [hr.out]; rfl, hn2⟩
  | true =>
    cases hs with
    | true =>
      go_wp2_with (go_at_call 25; refine (hname.out _).mono ?_; rintro e w2 ⟨rfl, hn2⟩)
      exact bodyPost_ret (v := .int .i64 7) (by simp [results, Try.results11, go_sem]) rfl ⟨by rw [hr.out]; rfl, hn2⟩
    | false =>
      have hlen := Lib.hid (fun w' (hn : New w w') (ty : TypeId) => (hH.out.new (rd' := fun _ _ => True) hn fun _ _ _ _ _ => trivial).len Try.underlying46 ty)
      by_cases he : l.length = most
      · have he' : (l.length : Int) = (most : Int) := by omega
        go_wp2_with (go_at_call 25; refine (hname.out _).mono ?_; rintro e w2 ⟨rfl, hn2⟩; have hl2 := hlen.out w2 hn2)
        exact bodyPost_ret (v := .int .i64 8) (by simp [results, Try.results11, go_sem]) rfl ⟨by rw [hr.out]; simp [he], hn2⟩
      · have he' : ¬ (l.length : Int) = (most : Int) := by omega
        go_wp2_with (go_at_call 25; refine (hname.out _).mono ?_; rintro e w2 ⟨rfl, hn2⟩; have hl2 := hlen.out w2 hn2)
        exact bodyPost_ret (v := .int .i64 0) (by simp [results, Try.results11, go_sem]) rfl ⟨by rw [hr.out]; simp [he], hn2⟩
/-- may there be one more -/
theorem room_snp {rd : Value → Ths → Prop} (b c most : Nat) (x : Nm) (l : List (Nm × Ths)) (w : World) (h : MP rd w b c l) (hx : x.length ≤ maxLen) (hm : most ≤ 1000) (hl : l.length ≤ 1000) :
    Calls Try.prog 29 #[.map (some b), encStr x, .int .i64 (most : Nat)] w fun e w' => e = .returned (.int .i64 (roomT l x most)) ∧ New w w' := by
  obtain ⟨v, hlk, _, _⟩ := h.look Try.underlying48 (zeroO w) hx
  have hname := Lib.hid (Name_any x hx)
  have hH := Lib.hid h
  clear h
  obtain ⟨hs, hhs⟩ : ∃ hs, Hid (hs = (get l x).isSome) := ⟨_, rfl⟩
  rw [← hhs.out] at hlk
  obtain ⟨gd, hgd⟩ : ∃ gd, Hid (gd = goodN x) := ⟨_, rfl⟩
  rw [← hgd.out] at hname
  have hr : Hid (roomT l x most = if gd = false then 4 else if hs = true then 7 else if l.length = most then 8 else 0) := by
    show _ = _
    unfold roomT
    rw [hgd.out, hhs.out]
  go_enter Try.func29, Try.ntmps29
  cases gd with
  | false =>
    go_wp2_with (go_at_call 25; refine (hname.out _).mono ?_; rintro e w2 ⟨rfl, hn2⟩)
    exact bodyPost_ret (v := .int .i64 4) (by simp [results, Try.results29, go_sem]) rfl ⟨by rw [hr.out]; rfl, hn2⟩
  | true =>
    cases hs with
    | true =>
      go_wp2_with (go_at_call 25; refine (hname.out _).mono ?_; rintro e w2 ⟨rfl, hn2⟩)
      exact bodyPost_ret (v := .int .i64 7) (by simp [results, Try.results29, go_sem]) rfl ⟨by rw [hr.out]; rfl, hn2⟩
    | false =>
      have hlen := Lib.hid (fun w' (hn : New w w') (ty : TypeId) => (hH.out.new (rd' := fun _ _ => True) hn fun _ _ _ _ _ => trivial).len Try.underlying48 ty)
      by_cases he : l.length = most
      · have he' : (l.length : Int) = (most : Int) := by omega
        go_wp2_with (go_at_call 25; refine (hname.out _).mono ?_; rintro e w2 ⟨rfl, hn2⟩; have hl2 := hlen.out w2 hn2)
        exact bodyPost_ret (v := .int .i64 8) (by simp [results, Try.results29, go_sem]) rfl ⟨by rw [hr.out]; simp [he], hn2⟩
      · have he' : ¬ (l.length : Int) = (most : Int) := by omega
        go_wp2_with (go_at_call 25; refine (hname.out _).mono ?_; rintro e w2 ⟨rfl, hn2⟩; have hl2 := hlen.out w2 hn2)
        exact bodyPost_ret (v := .int .i64 0) (by simp [results, Try.results29, go_sem]) rfl ⟨by rw [hr.out]; simp [he], hn2⟩

/-- a command's value -/
abbrev cmV (C : Cm) (drive keep : Int) (R : Option Addr) (dc : Nat) : Value := .agg (cmL C.kind C.name C.other C.off C.count drive keep R C.dn dc)
/-- what holds of a command -/
structure CmOk (w : World) (C : Cm) (R : Option Addr) (dc : Nat) : Prop where
  nl : C.name.length ≤ maxLen
  ol : C.other.length ≤ maxLen
  o1 : C.off ≤ 9223372036854775807
  c1 : C.count ≤ 9223372036854775807
  dat : RdI .u8 w R C.dn (fun i => (C.df i : Nat))
  dcm : dc ≤ maxLen
theorem CmOk.new {w w' : World} {C : Cm} {R : Option Addr} {dc : Nat} (h : CmOk w C R dc) (hn : New w w') : CmOk w' C R dc := ⟨h.nl, h.ol, h.o1, h.c1, h.dat.new hn, h.dcm⟩
/-- what a command leaves -/
def DoP (base sb ob nb c : Nat) (t : Td) (s' : PS) (w : World) (e : Ending) (w' : World) : Prop :=
  ∃ v ob' nb', e = .returned v ∧ TdV w' v t ∧ St base sb ob' nb' (c + 1) s' w' ∧ Alt (PK sb ob nb) w w'
theorem DoP.told {base sb ob nb ob' nb' c p : Nat} {t : Td} {s s' : PS} {w W1 w2 : World} {a0 a1 a2 a3 a4 : Value} (h1 : St base sb ob nb c s W1) (hN : New w W1) (hp : Blk W1 p 37 #[.int .i64 0, .bool false, .int .i64 0, .slice none 0 0, .slice none 0 0]) (hge : w.heap.size ≤ p) (hst : St base sb ob' nb' (c + 1) s' w2) (ht : TdV w2 (.agg #[a0, a1, a2, a3, a4]) t) (ha : Alt (PK sb ob nb) W1 w2) :
    DoP base sb ob nb c t s' w (.returned (.agg #[a0, a1, a2, a3, a4])) (put5 w2 p a0 a1 a2 a3 a4) := by
  have hp2 := ha.blk hp (h1.apart hp (by decide))
  exact ⟨_, ob', nb', rfl, told_val hp2 ht, hst.alt (put5_alt _ _ _ _ _ _ _) (fun e => blk_ne' hp2 hst.bk (by decide) e.symm) (fun g cs hb e => blk_ne' hb hp2 (by decide) e) fun b hm e => blk_not_map hp2 hm e, ((Alt.of_new hN).trans ha).trans' (put5_alt _ _ _ _ _ _ _) fun i hi => .inr (by omega)⟩
theorem DoP.lift {base sb ob nb c : Nat} {t : Td} {s s' : PS} {w W1 w2 : World} {a0 a1 a2 a3 a4 : Value} {p : Nat} (h1 : St base sb ob nb c s W1) (hN : New w W1) (hp : Blk W1 p 37 #[.int .i64 0, .bool false, .int .i64 0, .slice none 0 0, .slice none 0 0]) (hge : w.heap.size ≤ p) (h : DoP base sb ob nb c t s' W1 (.returned (.agg #[a0, a1, a2, a3, a4])) w2) :
    DoP base sb ob nb c t s' w (.returned (.agg #[a0, a1, a2, a3, a4])) (put5 w2 p a0 a1 a2 a3 a4) := by
  obtain ⟨v, ob', nb', e, ht, hst, ha⟩ := h
  cases e
  exact DoP.told h1 hN hp hge hst ht ha
theorem DoP.blk {base sb ob nb c : Nat} {t : Td} {s s' : PS} {W1 w2 : World} {e : Ending} {p : Nat} {cs : Array Value} (h1 : St base sb ob nb c s W1) (hp : Blk W1 p 37 cs) (h : DoP base sb ob nb c t s' W1 e w2) : Blk w2 p 37 cs := by
  obtain ⟨v, ob', nb', _, ht, hst, ha⟩ := h
  exact ha.blk hp (h1.apart hp (by decide))
theorem DoP.form {base sb ob nb c : Nat} {t : Td} {s' : PS} {W1 w2 : World} {e : Ending} (h : DoP base sb ob nb c t s' W1 e w2) : ∃ A n k B m j, e = .returned (.agg #[.int .i64 t.code, .bool false, .int .i64 (t.size : Nat), .slice A n k, .slice B m j]) := by
  obtain ⟨v, ob', nb', rfl, ⟨dv, nv, rfl, ⟨A, k, rfl, _⟩, hn⟩, hst, ha⟩ := h
  obtain ⟨B, j, rfl, _⟩ := own_open hn
  exact ⟨_, _, _, _, _, _, rfl⟩
end Go.Proofs.Ytmpaheaedaeakaa.pool
