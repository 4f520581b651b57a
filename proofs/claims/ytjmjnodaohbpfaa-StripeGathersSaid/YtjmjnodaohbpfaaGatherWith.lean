/-
  Contract of the reference's gatherWith.
-/
import Derived.Test.YtjmjnodaohbpfaaGatherAll
import Derived.Test.YtjmjnodaohbpfaaRbRef2
namespace Go.Proofs.Ytjmjnodaohbpfaa.stripe
open Go.ChangeShapes Go.WideShapes Go.ChangeAt Go.RowKit Go.Proofs.Ytjmjnodaohbpfaa.kit Go.Proofs.Ytjmjnodaohbpfaa.geom Go.Proofs.Ytjmjnodaohbpfaa.par Go.Deep
set_option linter.unusedVariables false
set_option maxRecDepth 100000
/-- columns that are collected by the reference, and the places that are gone -/
structure BSt (w0 : World) (Lg : Nat) (MX : Nat → Nat → Nat) (j : Nat) (Gw : Nat → Nat) (sv pv : Value) (ps : List Nat) (w : World) : Prop where
  nw : New w0 w
  own : w.ownsRow w0.heap.size 32 1 sv j (rowsC Gw (fun _ => Lg) Lg j)
  long : ∀ i, i < j → RowK 5 .u8 w (Gw i) Lg (MX i)
  pls : w.ownsRow w0.heap.size 3 1 pv ps.length (ps.map comb.encN)
section
variable {w0 w w' w'' : World} {Lg : Nat} {MX : Nat → Nat → Nat} {j : Nat} {Gw : Nat → Nat} {sv pv : Value} {ps : List Nat}
theorem BSt.new (h : BSt w0 Lg MX j Gw sv pv ps w) (hn : New w w') : BSt w0 Lg MX j Gw sv pv ps w' :=
  ⟨h.nw.next hn, own_new h.own hn, fun i hi => (h.long i hi).new hn, own_new h.pls hn⟩
theorem BSt.push (h : BSt w0 Lg MX j Gw sv pv ps w) (hn : New w w') {g : Nat} {v2 : Value} {o : Obj} (hr : RowK 5 .u8 w' g Lg (MX j))
    (hown : w''.ownsRow w0.heap.size 32 1 v2 (j + 1) (rowsC Gw (fun _ => Lg) Lg j ++ [.slice (some ⟨g, 0, none⟩) Lg Lg])) (hgr : (w'.alloc o).grownBy w'' sv.ownBlock) :
    BSt w0 Lg MX (j + 1) (fun i => if i = j then g else Gw i) v2 pv ps w'' := by
  have h2 := h.new (hn.alloc o)
  have hr2 := hr.new ((New.refl w').alloc o)
  have hk : ∀ (g' m : Nat) (f : Nat → Nat), RowK 5 .u8 (w'.alloc o) g' m f → RowK 5 .u8 w'' g' m f := fun g' m f hr' => hr'.grown hgr (hr'.ne_own h2.own (by decide))
  refine ⟨h2.nw.grown hgr fun g' hg' => (h2.own.lt _ hg').1, ?_, fun i hi => ?_, own_apart h2.pls h2.own (by decide) hgr⟩
  · rw [show (fun _ : Nat => Lg) = (fun i => if i = j then Lg else (fun _ => Lg) i) by funext i; split <;> rfl, rowsC_succ]
    exact hown
  · by_cases e : i = j
    · subst e
      simp only [if_true]
      exact hk _ _ _ hr2
    · simp only [if_neg e]
      exact hk _ _ _ (h2.long i (by omega))
theorem BSt.place (h : BSt w0 Lg MX j Gw sv pv ps w) {o : Obj} {v2 : Value} {x n : Nat} (hn : n = ps.length + 1) (hown : w''.ownsRow w0.heap.size 3 1 v2 n (ps.map comb.encN ++ [.int .i64 (x : Nat)])) (hgr : (w.alloc o).grownBy w'' pv.ownBlock) :
    BSt w0 Lg MX j Gw sv v2 (ps ++ [x]) w'' := by
  have h2 := h.new ((New.refl w).alloc o)
  refine ⟨h2.nw.grown hgr fun g' hg' => (h2.pls.lt _ hg').1, own_apart h2.own h2.pls (by decide) hgr, fun i hi => (h2.long i hi).grown hgr ((h2.long i hi).ne_own h2.pls (by decide)), ?_⟩
  rw [List.map_append, List.length_append]
  subst hn
  exact hown
theorem BSt.rdM (h : BSt w0 Lg MX j Gw sv pv ps w) (hL : Lg ≤ 4096) : ∃ A c, sv = .slice A j c ∧ RdM .u8 w A j (fun i => some ⟨Gw i, 0, none⟩) (fun _ => Lg) (fun _ => Lg) (fun i k => (MX i k : Nat)) := by
  obtain ⟨A, c, rfl, h1, h2, h3, h4⟩ := own_open h.own
  have hLm : Lg ≤ maxLen := by unfold maxLen; omega
  refine ⟨A, c, rfl, Nat.le_trans h1 h2, fun h0 => ?_, fun i hi => ⟨(h.long i hi).rdI hLm, Nat.le_refl _, hLm⟩⟩
  obtain ⟨g, rfl, _, hg⟩ := h3 h0
  refine ⟨g, 0, rfl, hg, fun i hi => ?_⟩
  have := h4 g rfl i (.slice (some ⟨Gw i, 0, none⟩) Lg Lg) (by simp [rowsC, hi])
  simpa using this
theorem BSt.rdI (h : BSt w0 Lg MX j Gw sv pv ps w) : ∃ A c, pv = .slice A ps.length c ∧ ps.length ≤ c ∧ RdI .i64 w A ps.length (atZ ps) := by
  obtain ⟨A, c, rfl, h1, h2, h3, h4⟩ := own_open h.pls
  refine ⟨A, c, rfl, h1, Nat.le_trans h1 h2, fun h0 => ?_⟩
  obtain ⟨g, rfl, _, hg⟩ := h3 h0
  refine ⟨g, 0, rfl, hg, fun i hi => ?_⟩
  have := h4 g rfl i (.int .i64 (ps.getD i 0 : Nat)) (by simp [List.getD, hi, comb.encN])
  show _ = some (Value.int .i64 (ps.getD i 0 : Nat))
  simpa using this
end
set_option maxHeartbeats 4000000 in
theorem gatherWith_any (LA PA GA : Option Addr) (num cl dr pa ad ct wd Lg pc gc base : Nat) (Ls : Nat → Bool) (R : Nat → Option Addr) (L C : Nat → Nat) (D : Nat → Nat → Nat) (g : List Nat) (w : World)
    (h3 : 1 ≤ pa) (h4 : pa ≤ 3) (h5 : num = pa + dcN ct wd) (h6 : 1 ≤ wd) (hc1 : 1 ≤ ct) (hc2 : ct ≤ 32) (h8 : num ≤ 8) (hd1 : 1 ≤ dcN ct wd) (hLg : Lg = 128 * cntC pa ct wd 0)
    (hcol : w.ownsRow base 63 4 (.slice LA num cl) num (colL dr pa ad (cntC pa ct wd) num)) (hP : RdP w PA num Ls R L C D) (hG : RdI .i64 w GA g.length (atZ g)) (hgl : g.length ≤ pa) :
    Calls Try.prog 43 #[.slice LA num cl, .int .i64 pa, .slice PA num pc, .slice GA g.length gc] w (dtP ct (dtL num pa ct wd L D g) w) := by
  obtain ⟨i0, hi0, hz0, hz1, hz2⟩ := info_parts infoSl
  obtain ⟨i1, hj0, hy0, hy1, hy2⟩ := info_parts infoIn
  obtain ⟨i2, hk0, hx0, hx1, hx2⟩ := info_parts infoU8
  have hc0 := cnt_max (pa := pa) h6 hc1 hc2 h3
  have hLg4 : Lg ≤ 4096 := by omega
  have hpn : pa ≤ num := by omega
  have hnum0 : 0 < num := by omega
  have hmk := run_make_row' (P := Try.prog) 32 5 (.int .u8 0) 1 Try.underlying32 infoU8 rfl .i64 .i64 Lg (by omega) (by omega)
  have hszI : Hid ((Try.prog.info? 5).map (·.size) = some 1) := by
    show _ = _
    kernel_rfl
  obtain ⟨pb, po, rfl, hpb, hpc⟩ := hP.2.1 hnum0
  replace hpc := Lib.hid hpc
  obtain ⟨A, c', he, _, _, hA, hcell⟩ := own_open hcol
  cases he
  obtain ⟨gk, rfl, _, hgk⟩ := hA hnum0
  have hq0 := hcell gk rfl (0 * 4 + 2) _ (by rw [colL_at dr pa ad _ num 0 2 (by omega) (by omega)]; rfl)
  simp at hq0
  have hcl : Hid (∀ c, c < num → w.cell? ⟨gk, c * 4 + 2, none⟩ = some (.int .i64 (cntC pa ct wd c : Nat))) := fun c hc => hcell gk rfl (c * 4 + 2) _ (by rw [colL_at dr pa ad _ num c 2 hc (by omega)]; rfl)
  obtain ⟨q0, hq⟩ : ∃ q0, Hid (q0 = cntC pa ct wd 0) := ⟨_, rfl⟩
  rw [← hq.out] at hq0 hLg hc0
  have hq00 := Lib.hid hq0
  have hmul : (128 : Int) * (q0 : Int) = (Lg : Int) := by omega
  have hP0 := Lib.hid hP
  have hG0 := Lib.hid hG
  have h50 := Lib.hid h5
  have hLg0 := Lib.hid hLg
  obtain ⟨m, hm⟩ : ∃ m, Hid (m = g.length) := ⟨_, rfl⟩
  obtain ⟨dc, hdc⟩ : ∃ dc, Hid (dc = dcN ct wd) := ⟨_, rfl⟩
  have hpd : num = pa + dc := by rw [hdc.out]; exact h5
  rw [← hdc.out] at hd1
  rw [← hm.out] at hG0 hgl ⊢
  replace hpd := Lib.hid hpd
  have hpd1 : dc + pa ≤ 8 := by have := hpd.out; omega
  have hn0i : (0 : Int) < (num : Int) := by omega
  have hz : ((num : Int) == 0) = false := by simp; omega
  clear hcol hP hG h5 hLg hA hcell hq0
  go_enter Try.func43, Try.ntmps43
  go_wp2_with fail
  go_loopw [20, 9, 10] (fun x s p wr => ∃ (i : Nat) (Gw : Nat → Nat) (sv pv : Value), sv = s ∧ pv = p ∧ x = .int .i64 i ∧ i ≤ num ∧ Hid (BSt w Lg (mxF num pa L D) i Gw sv pv (plR num pa g i) wr)) (fun x _ _ _ => num - (intOf x).toNat)
  case atStart => exact ⟨0, fun _ => 0, _, _, rfl, rfl, rfl, by omega, ⟨New.refl w, World.ownsRow_nil _ _ _ _, fun i hi => absurd hi (Nat.not_lt_zero i), World.ownsRow_nil _ _ _ _⟩⟩
  case round =>
    obtain ⟨i, Gw, sv, pv, rfl, rfl, rfl, hi, hs⟩ := hrel
    by_cases hlt : i < num
    · obtain ⟨c, hc⟩ : ∃ c, Hid (c = (i + pa) % num) := ⟨_, rfl⟩
      have hcn : c < num := by rw [hc.out]; exact Nat.mod_lt _ hnum0
      have hci : ((i : Int) + (pa : Int)) % (num : Int) = (c : Int) := by rw [hc.out]; push_cast; rfl
      have hmx : Hid (∀ k, (if k < L c then D c k else 0) = mxF num pa L D i k) := fun k => by unfold mxF pcF; rw [← hc.out]
      have hpdat : wr.cell? ⟨pb, po + c * 2 + 1, none⟩ = some (.slice (R c) (L c) (C c)) := (hs.out.nw.cell hpb).trans (hpc.out c hcn).2
      have hpdat2 : (wr.alloc (.cells (madeCells #[.int .u8 0] Lg) 5)).cell? ⟨pb, po + c * 2 + 1, none⟩ = some (.slice (R c) (L c) (C c)) := (((New.refl wr).alloc _).cell (lt_of_cell hpdat)).trans hpdat
      have d0 : wr.cell? ⟨gk, 2, none⟩ = some (.int .i64 q0) := (hs.out.nw.cell (p := ⟨gk, 2, none⟩) hgk).trans hq00.out
      have hrd : Hid (RdI .u8 wr (R c) (L c) (fun k => (D c k : Nat))) := (hP0.out.new hs.out.nw).dat hcn
      have hcc0 : (0 : Int) ≤ (c : Int) := by omega
      have hcc1 : (c : Int) < (num : Int) := by omega
      have hcd0 : (0 : Int) ≤ ((i : Int) + (pa : Int)) % (num : Int) := by rw [hci]; omega
      have hcd1 : ((i : Int) + (pa : Int)) % (num : Int) < (num : Int) := by rw [hci]; omega
      have hcd2 : (((i : Int) + (pa : Int)) % (num : Int)).toNat = c := by rw [hci]; omega
      have hi8 : i ≤ 8 := by omega
      obtain ⟨mm, hmm⟩ : ∃ mm, Hid (mm = Nat.min (L c) Lg) := ⟨_, rfl⟩
      have hmn : mm ≤ L c := by rw [hmm.out]; exact Nat.min_le_left _ _
      have hmL : mm ≤ Lg := by rw [hmm.out]; exact Nat.min_le_right _ _
      have hr2 : Hid (0 < mm → ∃ b o, R c = some ⟨b, o, none⟩ ∧ ∀ j, j < mm → (wr.alloc (.cells (madeCells #[.int .u8 0] Lg) 5)).cell? ⟨b, o + j, none⟩ = some (.int .u8 (D c j : Nat))) := fun h0 => by
        obtain ⟨b, o, hR, hb, hc⟩ := (hrd.out.new ((New.refl wr).alloc _)).2 (by omega)
        exact ⟨b, o, hR, fun j hj => hc j (by omega)⟩
      have hmade := Lib.hid (World.rowIs_made wr (.int .u8 0) Lg 5)
      have hbw := hs.out.nw.size
      have hhas := Lib.hid (fun (w' : World) (hn : New w w') => hasInt_any GA m gc (atZ g) (((i : Int) + (pa : Int)) % (num : Int)) w' (hG0.out.new hn))
      have hpl : (plR num pa g i).length ≤ i := plR_size _ _ _ _
      cases hb : g.contains c with
      | false =>
        have hplR := plR_no (num := num) (pa := pa) (i := i) (g := g) (by rw [← hc.out]; exact hb)
        have hhb : hasD (atZ g) m (((i : Int) + (pa : Int)) % (num : Int)) = false := by rw [hci, hm.out, has_list]; exact hb
        rw [hhb] at hhas
        replace hplR := Lib.hid hplR
        clear hhb hb hci
        have hrow : Hid (∀ w3, Hid (w3.rowIs wr.heap.size 5 Lg (cpF 0 mm (fun j => .int .u8 (D c j : Nat)) (fun _ => .int .u8 0))) → RowK 5 .u8 w3 wr.heap.size Lg (mxF num pa L D i)) := fun w3 hr3 => RowK.of_rowIs hr3.out (Nat.le_refl _) fun j hj => by
          rw [← hmx.out]
          unfold cpF
          have hmm' := hmm.out
          by_cases e : j < L c
          · have : j < mm := by rw [hmm']; exact Nat.lt_min.2 ⟨e, hj⟩
            rw [if_pos ⟨Nat.zero_le _, by omega⟩, if_pos e]; rfl
          · rw [if_neg (by omega), if_neg e]; rfl
        go_wp2_with (first
          | ((with_reducible refine wpList_copy_rowIs rfl (.tmp 35) (.tmp 40) 32 32 rfl 5 Try.underlying32 hszI.out wr.heap.size 0 Lg 5 _ hmade.out (some ⟨wr.heap.size, 0, none⟩) (R c) Lg Lg (L c) (C c) mm (fun j => .int .u8 (D c j : Nat)) rfl rfl hmm.out (fun h0 => ⟨rfl, hr2.out h0⟩) (by omega) (fun j _ => rfl) ?_); intro w3 hr3 hg3; have hN3 : New wr w3 := ((New.refl wr).alloc _).grown1 hg3 (Nat.le_refl _); have hs3 := hs.out.new hN3; have own3 := hs3.own; have hs3 := Lib.hid hs3; have hb3 := hN3.size)
          | (at_builtin; refine wpList_append_own _ rfl _ _ 22 rfl w.heap.size 32 i0 _ 1 24 Try.underlying22 hi0 hz0 hz1 hz2 rfl (by decide) sv i (rowsC Gw (fun _ => Lg) Lg i) rfl (own3.alloc _) ⟨w3.heap.size, 0, none⟩ 1 1 [.slice (some ⟨wr.heap.size, 0, none⟩) Lg Lg] rfl rfl (World.news_of_block (cs := #[.slice _ _ _]) (t := 32) (fr := (0, 0)) (heap_alloc_new w3 _)) (by simp [Value.oneCell']) (by unfold maxLen; omega) (by omega) (by simp; omega) ?_; intro v4 w4 hown4 hgrow4 hnil4; have hs4 := hs.out.push hN3 (hrow.out w3 hr3) hown4 hgrow4; have hN4 := hs4.nw; have own5 := hs4.pls; have hb5 := hN4.size; replace hs4 := Lib.hid hs4; clear hown4 hgrow4 hnil4 own3)
          | (go_at_call 30; refine (hhas.out _ hN4).mono ?_; rintro e w5 ⟨rfl, rfl⟩))
        go_roundw
        case rel => exact ⟨i + 1, _, _, _, rfl, rfl, by go_num, by omega, by rw [hplR.out]; exact hs4⟩
        case measure => simp [intOf]; omega
      | true =>
        have hplR := plR_yes (num := num) (pa := pa) (i := i) (g := g) (by rw [← hc.out]; exact hb)
        have hhb : hasD (atZ g) m (((i : Int) + (pa : Int)) % (num : Int)) = true := by rw [hci, hm.out, has_list]; exact hb
        rw [hhb] at hhas
        have hpll : (plR num pa g (i + 1)).length = (plR num pa g i).length + 1 := by rw [hplR]; simp
        replace hplR := Lib.hid hplR
        replace hpll := Lib.hid hpll
        clear hhb hb hci
        have hrow : Hid (∀ w3, Hid (w3.rowIs wr.heap.size 5 Lg (cpF 0 mm (fun j => .int .u8 (D c j : Nat)) (fun _ => .int .u8 0))) → RowK 5 .u8 w3 wr.heap.size Lg (mxF num pa L D i)) := fun w3 hr3 => RowK.of_rowIs hr3.out (Nat.le_refl _) fun j hj => by
          rw [← hmx.out]
          unfold cpF
          have hmm' := hmm.out
          by_cases e : j < L c
          · have : j < mm := by rw [hmm']; exact Nat.lt_min.2 ⟨e, hj⟩
            rw [if_pos ⟨Nat.zero_le _, by omega⟩, if_pos e]; rfl
          · rw [if_neg (by omega), if_neg e]; rfl
        go_wp2_with (first
          | ((with_reducible refine wpList_copy_rowIs rfl (.tmp 35) (.tmp 40) 32 32 rfl 5 Try.underlying32 hszI.out wr.heap.size 0 Lg 5 _ hmade.out (some ⟨wr.heap.size, 0, none⟩) (R c) Lg Lg (L c) (C c) mm (fun j => .int .u8 (D c j : Nat)) rfl rfl hmm.out (fun h0 => ⟨rfl, hr2.out h0⟩) (by omega) (fun j _ => rfl) ?_); intro w3 hr3 hg3; have hN3 : New wr w3 := ((New.refl wr).alloc _).grown1 hg3 (Nat.le_refl _); have hs3 := hs.out.new hN3; have own3 := hs3.own; have hs3 := Lib.hid hs3; have hb3 := hN3.size)
          | (at_builtin; refine wpList_append_own _ rfl _ _ 29 rfl w.heap.size 3 i1 _ 1 8 Try.underlying29 hj0 hy0 hy1 hy2 rfl (by decide) pv (plR num pa g i).length ((plR num pa g i).map comb.encN) rfl (own5.alloc _) ⟨w4.heap.size, 0, none⟩ 1 1 [.int .i64 (i : Nat)] rfl rfl (World.news_of_block (cs := #[.int .i64 _]) (t := 3) (fr := (0, 0)) (heap_alloc_new w4 _)) (by simp [Value.oneCell']) (by unfold maxLen; omega) (by omega) (by simp; omega) ?_; intro v6 w6 hown6 hgrow6 hnil6; have hs6 := Lib.hid (hs4.out.place rfl hown6 hgrow6); clear hown6 hgrow6 hnil6)
          | (at_builtin; refine wpList_append_own _ rfl _ _ 22 rfl w.heap.size 32 i0 _ 1 24 Try.underlying22 hi0 hz0 hz1 hz2 rfl (by decide) sv i (rowsC Gw (fun _ => Lg) Lg i) rfl (own3.alloc _) ⟨w3.heap.size, 0, none⟩ 1 1 [.slice (some ⟨wr.heap.size, 0, none⟩) Lg Lg] rfl rfl (World.news_of_block (cs := #[.slice _ _ _]) (t := 32) (fr := (0, 0)) (heap_alloc_new w3 _)) (by simp [Value.oneCell']) (by unfold maxLen; omega) (by omega) (by simp; omega) ?_; intro v4 w4 hown4 hgrow4 hnil4; have hs4 := hs.out.push hN3 (hrow.out w3 hr3) hown4 hgrow4; have hN4 := hs4.nw; have own5 := hs4.pls; have hb5 := hN4.size; replace hs4 := Lib.hid hs4; clear hown4 hgrow4 hnil4 own3)
          | (go_at_call 30; refine (hhas.out _ hN4).mono ?_; rintro e w5 ⟨rfl, rfl⟩))
        go_roundw
        case rel => exact ⟨i + 1, _, _, _, rfl, rfl, by go_num, by omega, by rw [hplR.out]; exact hs6⟩
        case measure => simp [intOf]; omega
    · have hin : i = num := by omega
      subst hin
      obtain ⟨A1, c1, rfl, hcap1, hD1⟩ := hs.out.rdI
      obtain ⟨A2, c2, rfl, hM2⟩ := hs.out.rdM hLg4
      obtain ⟨pn, hpn'⟩ : ∃ pn, Hid (pn = (plR i pa g i).length) := ⟨_, rfl⟩
      have hreb : Hid (Calls Try.prog 14 #[.slice A2 i c2, .int .i64 pa, .slice A1 (plR i pa g i).length c1] wr fun e w' => ∃ A c Ad Cp, e = .returned (.tuple #[.slice A i c, .int .i64 0]) ∧ RdM .u8 w' A i Ad (fun _ => Lg) Cp (fun k t => (rbF (goG i pa g) (i - pa) pa (fun i' k => (mxF i pa L D i' k : Nat)) k t : Nat)) ∧ New wr w') := by
        refine (ParRebuild_any i c2 (plR i pa g i).length c1 pa A2 A1 _ _ _ _ _ wr hM2 (fun i' hi' k hk => ?_) hD1 hcap1 (by omega) (by omega)).mono fun e w' h => reb_ok ?_ ?_ h
        · have := mxF_lt (pa := pa) (L := L) (fun c k hc => (hP0.out.2.2 c hc).2.2.2 k) hnum0 i' k
          omega
        · exact rb_ok h3 h4 (by have := hpd.out; omega) h8 hLg4 out_plR (dup_list (plR_nodup _ _ _ _)) (Nat.le_trans (plR_len hpn) (by rw [← hm.out]; exact hgl))
        · exact gn_plR
      have hnw0 := Lib.hid hs.out.nw
      clear hM2 hD1 hs hmk
      rw [← hpn'.out] at hreb ⊢
      go_wp2_with fail
      refine hreb.out.mono ?_
      rintro e w2 ⟨A3, c3, Ad, Cp, rfl, hR3, hn2⟩
      have hR30 := Lib.hid hR3
      have hN2 := Lib.hid (hnw0.out.next hn2)
      clear hR3 hn2 hreb hnw0
      go_wp2_with fail
      obtain ⟨F, hF⟩ : ∃ F, Hid (F = rbF (goG i pa g) (i - pa) pa (fun i' k => (mxF i pa L D i' k : Nat))) := ⟨_, rfl⟩
      obtain ⟨sz, hsz⟩ : ∃ sz, Hid (sz = fun i => 128 * cntC pa ct wd (pa + i)) := ⟨_, rfl⟩
      have hdj : Hid (i = pa + dc) := hpd
      have hsum : Hid (∀ i, sumL sz i = atS ct wd i) := fun i => by rw [hsz.out]; exact sumL_at h6 hc1 i
      rw [← hF.out] at hR30
      go_loopw [17, 16] (fun x s wr => ∃ (c t : Nat) (ov : Value), ov = s ∧ x = .int .i64 c ∧ Hid (c = pa + t) ∧ c ≤ i ∧ wr.ownsRow w2.heap.size 5 1 ov (sumL sz t) ((catL F sz t).map encB) ∧ Hid (New w2 wr)) (fun x _ _ => i - (intOf x).toNat)
      case atStart => exact ⟨pa, 0, _, rfl, rfl, rfl, hpn, World.ownsRow_nil _ _ _ _, New.refl _⟩
      case round =>
        obtain ⟨c, t, ov, rfl, rfl, hct, hcj, hown, hnw⟩ := hrel
        by_cases hlt : c < i
        · have hcv := hct.out
          have hid : t < dc := by have := hdj.out; omega
          obtain ⟨b3, o3, rfl, hb3, hcs3⟩ := hR30.out.2.1 hnum0
          have hij : t < i := by omega
          have hc3 := (hnw.out.cell hb3).trans (hcs3 t hij)
          obtain ⟨hrI, hrc, hrm⟩ := hR30.out.2.2 t hij
          have hrc : Lg ≤ Cp t := hrc
          obtain ⟨s, hs⟩ : ∃ s, Hid (s = sz t) := ⟨_, rfl⟩
          have hs1 : s = 128 * cntC pa ct wd (pa + t) := by rw [hs.out, hsz.out]
          have hcle := cnt_le (pa := pa) (ct := ct) h6 hc1 h3 (pa + t)
          have hcpos := cnt_pos (pa := pa) h6 hc1 t (by rw [← hdc.out]; exact hid)
          have hsL : s ≤ Lg := by rw [hs1, hLg0.out, hq.out]; omega
          have hs0 : 0 < s := by omega
          obtain ⟨a0, ha0⟩ : ∃ a0, Hid (a0 = sumL sz t) := ⟨_, rfl⟩
          have ha1 : a0 + s ≤ 4096 := by
            have h1 := at_next (pa := pa) h6 hc1 t
            have h2 := at_le h6 hc1 (t + 1) (by rw [← hdc.out]; omega)
            rw [ha0.out, hsum.out, hs1]
            omega
          have hnx : Hid (sumL sz (t + 1) = a0 + s) := by show _ = _; rw [ha0.out, hs.out]; rfl
          rw [← ha0.out] at hown
          obtain ⟨ab, ao, had, hab, hacs⟩ := hrI.2 (by show 0 < Lg; omega)
          have hnews : Hid (∀ w', New w2 w' → ∀ q u, (numL .u8 (F t) s)[q]? = some u → w'.cell? ((⟨ab, ao, none⟩ : Addr).add q) = some u) := fun w' hn => numL_src (fun q hq => (hn.cell (p := ⟨ab, ao + q, none⟩) hab).trans (hacs q (show q < Lg by omega)))
          have hone := Lib.hid (numL_one .u8 (F t) s)
          have hlen : Hid ((numL .u8 (F t) s).length = s) := numL_len .u8 (F t) s
          have hcat : Hid ((catL F sz (t + 1)).map encB = (catL F sz t).map encB ++ numL .u8 (F t) s) := by
            show _ = _
            rw [numL_enc, hs.out]
            simp [catL]
          rw [had] at hc3
          obtain ⟨qc, hqc⟩ : ∃ qc, Hid (qc = cntC pa ct wd c) := ⟨_, rfl⟩
          have hsq : s = 128 * qc := by rw [hs1, hqc.out, hcv]
          have hmq : (128 : Int) * (qc : Int) = (s : Int) := by omega
          have hqc32 : qc ≤ 32 := by omega
          have hcc : Hid (∀ w', New w2 w' → w'.cell? ⟨gk, c * 4 + 2, none⟩ = some (.int .i64 qc)) := fun w' hn => by
            rw [hqc.out]
            exact ((hN2.out.next hn).cell (p := ⟨gk, c * 4 + 2, none⟩) hgk).trans (hcl.out c hlt)
          have hci0 : (0 : Int) ≤ (c : Int) := by omega
          have hsub : (c : Int) - (pa : Int) = (t : Int) := by omega
          have hi0 : (0 : Int) ≤ (t : Int) := by omega
          have hi1 : (t : Int) < (i : Int) := by omega
          have hs0i : (0 : Int) ≤ (s : Int) := by omega
          have hs1i : (s : Int) ≤ (Cp t : Int) := by omega
          have hs2i : s ≤ Cp t := by omega
          have hown0 := Lib.hid hown
          have hw2 := hnw.out.size
          have hw0 := hN2.out.size
          have hc30 := hcs3 t hij
          rw [had] at hc30
          have hc3H := Lib.hid hc30
          have hkeep : Hid (∀ w', New w2 w' → w'.cell? ⟨gk, c * 4 + 2, none⟩ = some (.int .i64 qc) ∧ w'.cell? ⟨b3, o3 + t, none⟩ = some (.slice (some ⟨ab, ao, none⟩) Lg (Cp t))) := fun w' hn => ⟨hcc.out w' hn, (hn.cell (lt_of_cell hc3H.out)).trans hc3H.out⟩
          clear hc30
          obtain ⟨d0, _⟩ := hkeep.out wr hnw.out
          have hcn0 : (c : Int) < (i : Int) := by omega
          have hwi : IntKind.i64.wrap (t : Int) = (t : Int) := IntWalk.i64_in _ (by omega)
          have hws : IntKind.i64.wrap (s : Int) = (s : Int) := IntWalk.i64_in _ (by omega)
          clear hs1 hcle hcpos hrI hacs hcs3 hown hcv hsq
          go_wp2_with fail
          go_region_held3 (fun w' => w'.cell? ⟨gk, c * 4 + 2, none⟩ = some (.int .i64 qc) ∧ w'.cell? ⟨b3, o3 + t, none⟩ = some (.slice (some ⟨ab, ao, none⟩) Lg (Cp t)))
            (first
              | exact hkeep.out _ hnw.out.drew
              | assumption
              | exact hS7)
            ((refine step_append_lies _ (by rfl) _ _ 32 (by rfl) w2.heap.size 5 i2 _ 1 1 Try.underlying32 hk0 hx0 hx1 hx2 rfl (by decide) ov a0 ((catL F sz t).map encB) (by rfl) hown0.out.drew ⟨ab, ao, none⟩ s (Cp t) (numL .u8 (F t) s) (by rfl) (by rw [hlen.out]; omega) (hnews.out _ hnw.out.drew) hone.out (by omega) (by unfold maxLen; omega) (by omega) (by simp; omega) wr.heap.size (by simp) ?_; intro g7 c7 w7 hown7 hgrow7 hat7 hlt7; have hN7 : Hid (New w2 w7) := (hnw.out.drew).grown hgrow7 (fun g hg => (hown0.out.lt _ hg).1); have hS7 := hkeep.out w7 hN7.out; have hown8 := Lib.hid hown7; clear hown7 hgrow7 hat7))
          all_goals
            rw [← hcat.out, ← hnx.out] at hown8
            clear hkeep d0 hc3
            go_wp2
            go_roundw
          case rel => exact ⟨c + 1, t + 1, _, by rw [hnx.out], by go_num, (by show _ = _; rw [hct.out]; rfl), by omega, hown8.out, hN7⟩
          case measure => simp [intOf]; omega
        · have hcj2 : c = i := by omega
          have hid : t = dc := by have := hct.out; have := hdj.out; omega
          have hfin : Hid (∃ A c, ov = .slice A (128 * ct) c ∧ 128 * ct ≤ c ∧ c ≤ maxLen ∧ RdI .u8 wr A (128 * ct) (fun k => ((dtL i pa ct wd L D g).getD k 0 : Nat)) ∧ ∀ a, A = some a → w.heap.size ≤ a.block) := by
            have hdd : i - pa = dc := by have := hdj.out; omega
            have hsz2 : sumL sz t = 128 * ct := by rw [hsum.out, hid, hdc.out, at_end h6 hc1]
            have hl : catL F sz t = dtL i pa ct wd L D g := by
              unfold dtL
              rw [hid, hF.out, hsz.out, hdd]
            rw [hsz2, hl] at hown
            obtain ⟨A, c, h1, h2, h3, h4, h5⟩ := own_bytes hown (by rw [← hl, catL_len, hsz2])
            exact ⟨A, c, h1, h2, h3, h4, fun a ha => Nat.le_trans hN2.out.size (h5 a ha)⟩
          obtain ⟨A, cc, rfl, hf1, hf2, hf3⟩ := hfin.out
          have hf4 := Lib.hid (And.intro hf1 (And.intro hf2 hf3))
          have hNf := Lib.hid (hN2.out.next hnw.out)
          clear hown hf1 hf2 hf3 hfin
          go_wp2
          go_ret
          exact ⟨⟨A, cc, rfl, hf4.out.1, hf4.out.2.1, hf4.out.2.2⟩, hNf.out⟩
end Go.Proofs.Ytjmjnodaohbpfaa.stripe
