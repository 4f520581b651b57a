/-
  Contract of slices.Delete at snapshots: one goes.
-/
import Derived.Test.YtiffgeglbafenaaSnapKill
import Derived.Deep.DeepAppendRoom
namespace Go.Proofs.Ytiffgeglbafenaa.snap
open Go.ChangeShapes Go.WideShapes Go.ChangeAt Go.RowKit Go.Proofs.Ytiffgeglbafenaa.kit Go.Deep
set_option linter.unusedVariables false
set_option maxRecDepth 100000
/-- behind an owned row's end all may be written -/
theorem own_beyond1 {w : World} {B : Nat} {e : TypeId} {size n c g k : Nat} {xs : List Value} (h : w.ownsRow B e size (.slice (some ⟨g, 0, none⟩) n c) n xs) (hk : n * size ≤ k) (u : Value) : (w.setCell ⟨g, k, none⟩ u).ownsRow B e size (.slice (some ⟨g, 0, none⟩) n c) n xs := by
  refine ⟨h.1, ?_⟩
  rcases h.2 with ⟨h0, _⟩ | ⟨g', cap, cur, h0, hb, hg, h1, h2, h3, h4⟩
  · cases h0
  · injection h0 with h01 h02 h03
    injection h01 with h01
    injection h01 with h01 _ _
    subst h01
    subst h03
    have hg' : Blk w g e cur := hg
    refine .inr ⟨g, c, cur.setIfInBounds k u, rfl, hb, hg'.put k u, h1, h2, by simpa using h3, ?_⟩
    rw [← h4]
    apply List.ext_getElem?
    intro j
    simp only [List.getElem?_take]
    by_cases hj : j < n * size
    · rw [if_pos hj, if_pos hj, Array.getElem?_toList, Array.getElem?_toList, Array.getElem?_setIfInBounds, if_neg (by omega)]
    · rw [if_neg hj, if_neg hj]
theorem own_beyond {B : Nat} {e : TypeId} {size n c g : Nat} {xs : List Value} : ∀ (vs : List Value) (k : Nat) (w : World), w.ownsRow B e size (.slice (some ⟨g, 0, none⟩) n c) n xs → n * size ≤ k → (w.setCells g k vs).ownsRow B e size (.slice (some ⟨g, 0, none⟩) n c) n xs
  | [], k, w, h, hk => h
  | v :: vs, k, w, h, hk => own_beyond vs (k + 1) _ (own_beyond1 h hk v) (by omega)
theorem setCells_grown (b : Nat) : ∀ (vs : List Value) (o : Nat) (w : World), w.grownBy (w.setCells b o vs) (some b)
  | [], o, w => grown_refl w _
  | v :: vs, o, w => by
    have h1 := grown_set w b o v
    have h2 := setCells_grown b vs (o + 1) (w.setCell ⟨b, o, none⟩ v)
    exact ⟨h2.os.trans h1.os, h2.tape.trans h1.tape, h2.output.trans h1.output, Nat.le_trans h1.size h2.size, fun k hk hr => (h2.block k (Nat.lt_of_lt_of_le hk h1.size) hr).trans (h1.block k hk hr)⟩
theorem grown_trans {a b c : World} {r : Option Nat} (h1 : a.grownBy b r) (h2 : b.grownBy c r) : a.grownBy c r :=
  ⟨h2.os.trans h1.os, h2.tape.trans h1.tape, h2.output.trans h1.output, Nat.le_trans h1.size h2.size, fun k hk hr => (h2.block k (Nat.lt_of_lt_of_le hk h1.size) hr).trans (h1.block k hk hr)⟩
/-- an owned row's first elements -/
theorem own_first {w : World} {B : Nat} {e : TypeId} {size n c g i : Nat} {xs : List Value} (h : w.ownsRow B e size (.slice (some ⟨g, 0, none⟩) n c) n xs) (hi : i ≤ n) : w.ownsRow B e size (.slice (some ⟨g, 0, none⟩) i c) i (xs.take (i * size)) := by
  have hle : i * size ≤ n * size := Nat.mul_le_mul_right _ hi
  refine ⟨by rw [List.length_take, h.1]; omega, ?_⟩
  rcases h.2 with ⟨h0, _⟩ | ⟨g', cap, cur, h0, hb, hg, h1, h2, h3, h4⟩
  · cases h0
  · injection h0 with h01 h02 h03
    injection h01 with h01
    injection h01 with h01 _ _
    subst h01
    subst h03
    exact .inr ⟨g, c, cur, rfl, hb, hg, by omega, h2, h3, by rw [← h4, List.take_take, Nat.min_eq_left hle]⟩
theorem run_clear_one {P : Program} (w : World) (t e ty : TypeId) (z : Value) (zs : List Value) (ht : P.underlying t = some (.slice e)) (hv : ∀ w, (zeroValue e).run P w = .ok z w) (hz : (Builtin.zeroCells z.cells 1).toList = zs) (h1 : ∀ v ∈ zs, v.oneCell' = true) (b o c : Nat)
    (hc : ∀ j, j < zs.length → (w.cell? ⟨b, o + j, none⟩).isSome = true) (hf : ∀ j, j < zs.length → w.frozen? ⟨b, o + j, none⟩ = false) :
    (Builtin.clear_ #[t] ty #[.slice (some ⟨b, o, none⟩) 1 c]).run P w = .ok (.tuple #[]) (w.setCells b o zs) := by
  have hst := run_storeCells_cells (P := P) b o zs 0 w (by simpa using hc) (by simpa using hf) h1
  simp only [Nat.add_zero] at hst
  simp [Builtin.clear_, run_underlying ht, hv, hz, hst]
theorem wpList_clear_one {P : Program} {ops : Array Oper} {rest : List Oper} {o : Oper} {a : Act} {w : World} {Q : Exit → Act → World → Prop} (hgd : o.guard = none) (s : Operand) (t : TypeId)
    (ho : o.op = .call { callee := .builtin .clear, args := #[s], argTypes := #[t] }) (e : TypeId) (i : TypeInfo) (z : Value) (zs : List Value) (ht : P.underlying t = some (.slice e)) (hi : P.info? e = some i) (hz : i.zero = some z) (hzc : (Builtin.zeroCells z.cells 1).toList = zs) (h1 : ∀ v ∈ zs, v.oneCell' = true)
    (b off c : Nat) (hs : a.eval s = .slice (some ⟨b, off, none⟩) 1 c) (hc : ∀ j, j < zs.length → (w.cell? ⟨b, off + j, none⟩).isSome = true) (hf : ∀ j, j < zs.length → w.frozen? ⟨b, off + j, none⟩ = false)
    (h : wpList P ops Q rest (a.put o.dst (.tuple #[])) (w.setCells b off zs)) : wpList P ops Q (o :: rest) a w := by
  refine wpList_plain hgd fun _ hK => ?_
  have hv : ∀ w, (zeroValue e).run P w = .ok z w := fun w => by simp [zeroValue, typeInfo, hi, hz]
  have hr := run_clear_one (P := P) w t e o.type z zs ht hv hzc h1 b off c hc hf
  unfold Oper.wp execOp
  simp only [ho, resolve, invoke, builtin, Sem.run_bind, Sem.run_pure, Result.andThen_ok, List.map_toArray, List.map_cons, List.map_nil, hs, hr]
  exact hK _ _ h
theorem step_append_run {P : Program} {ops : Array Oper} {o : Oper} {a : Act} {K : Act → World → Prop} {Q : Exit → Act → World → Prop} {E : Prop} {w w' : World} {v : Value} (hgd : o.guard = none) (s x : Operand) (t : TypeId)
    (ho : o.op = .call { callee := .builtin .append, args := #[s, x], argTypes := #[t, t] }) (sv xv : Value) (hs : a.eval s = sv) (hx : a.eval x = xv) (hr : (Builtin.append_ #[t, t] o.type #[sv, xv]).run P w = .ok v w')
    (h : K (a.put o.dst v) w') : if Region.wanted o (yielded ops a.tmps) = true then Oper.wp P o a w K Q else E := by
  have hw : Region.wanted o (yielded ops a.tmps) = true := by simp [Region.wanted, hgd]
  rw [if_pos hw]
  unfold Oper.wp execOp
  simp only [ho, resolve, invoke, builtin, Sem.run_bind, Sem.run_pure, Result.andThen_ok, List.map_toArray, List.map_cons, List.map_nil, hs, hx, hr]
  exact h
theorem step_append_own_spare {P : Program} {w : World} {ops : Array Oper} {o : Oper} {a : Act} {K : Act → World → Prop} {Q : Exit → Act → World → Prop} {E : Prop} (hgd : o.guard = none) (s x : Operand) (t : TypeId)
    (ho : o.op = .call { callee := .builtin .append, args := #[s, x], argTypes := #[t, t] })
    (base : Nat) (e : TypeId) (i : TypeInfo) (size : Nat) (ht : P.underlying t = some (.slice e)) (hi : P.info? e = some i) (hsize : i.size = size)
    (g n cap : Nat) (xs : List Value) (hs : a.eval s = .slice (some ⟨g, 0, none⟩) n cap) (hown : w.ownsRow base e size (.slice (some ⟨g, 0, none⟩) n cap) n xs)
    (ad : Addr) (m c : Nat) (news : List Value) (hx : a.eval x = .slice (some ad) m c) (hl : news.length = m * size) (hnews : ∀ j u, news[j]? = some u → w.cell? (ad.add j) = some u) (h1 : ∀ u ∈ news, u.oneCell' = true)
    (hroom : n + m ≤ cap)
    (h : ∀ w', w'.ownsRow base e size (.slice (some ⟨g, 0, none⟩) (n + m) cap) (n + m) (xs ++ news) → w.grownBy w' (some g) → K (a.put o.dst (.slice (some ⟨g, 0, none⟩) (n + m) cap)) w') : if Region.wanted o (yielded ops a.tmps) = true then Oper.wp P o a w K Q else E := by
  have hw : Region.wanted o (yielded ops a.tmps) = true := by simp [Region.wanted, hgd]
  rw [if_pos hw]
  exact wp_append_own_spare w s x t ho base e i size ht hi hsize g n cap xs hs hown ad m c news hx hl hnews h1 hroom h
theorem own_some {w : World} {B : Nat} {e : TypeId} {size n c g k : Nat} {xs : List Value} (h : w.ownsRow B e size (.slice (some ⟨g, 0, none⟩) n c) n xs) (hk : k < c * size) : (w.cell? ⟨g, k, none⟩).isSome = true := by
  rcases h.2 with ⟨h0, _⟩ | ⟨g', cap, cur, h0, hb, hg, h1, h2, h3, h4⟩
  · cases h0
  · injection h0 with h01 h02 h03
    injection h01 with h01
    injection h01 with h01 _ _
    subst h01
    subst h03
    have hg' : Blk w g e cur := hg
    rw [hg'.cell k, Array.getElem?_eq_getElem (by omega)]
    rfl
set_option maxHeartbeats 2000000 in
theorem Delete_any (base i q g c : Nat) (xs : List Value) (w : World) (hown : w.ownsRow base 72 3 (.slice (some ⟨g, 0, none⟩) (q + 1) c) (q + 1) xs) (h1 : ∀ u ∈ xs, u.oneCell' = true) (hi : i < q + 1) (hm : q < 9) :
    Calls Try.prog 30 #[.slice (some ⟨g, 0, none⟩) (q + 1) c, .int .i64 (i : Nat), .int .i64 ((i : Int) + 1)] w fun e w' => e = .returned (.slice (some ⟨g, 0, none⟩) q c) ∧ w'.ownsRow base 72 3 (.slice (some ⟨g, 0, none⟩) q c) q (xs.take (i * 3) ++ xs.drop ((i + 1) * 3)) ∧ w.grownBy w' (some g) := by
  obtain ⟨i0, hi0, hz0, hz1, hz2⟩ := info_parts infoShot
  have hmc : q + 1 ≤ c ∧ c ≤ maxLen := by
    obtain ⟨A', c', e, q1, q2, _⟩ := own_open hown
    cases e
    exact ⟨q1, q2⟩
  have hmc2 := hmc.2
  unfold maxLen at hmc2
  have a1 : (i : Int) + 1 ≤ ((q : Int) + 1) := by omega
  have a2 : ((q : Int) + 1) ≤ 9 := by omega
  have a3 : ((q : Int) + 1) ≤ (c : Int) := by omega
  have a4 : (i : Int) ≤ (i : Int) + 1 := by omega
  have a5 : ¬ (i : Int) = (i : Int) + 1 := by omega
  have a6 : (i : Int) ≤ (c : Int) := by omega
  have a7 : i ≤ c := by omega
  have a8 : i + 1 ≤ q + 1 := by omega
  have a9 : ¬ c < i := by omega
  have b1 : q + 1 ≤ c := hmc.1
  have b2 : ¬ c < q + 1 := by omega
  have b3 : ¬ q + 1 < i + 1 := by omega
  have b4 : (0 : Int) ≤ (i : Int) + 1 := by omega
  have b5 : ((i : Int) + 1).toNat = i + 1 := by omega
  have hownH := Lib.hid hown
  have h1H := Lib.hid h1
  clear hown h1
  go_enter Try.func30, Try.ntmps30
  go_wp2
  have hcell : Hid (∀ j u, (xs.drop ((i + 1) * 3))[j]? = some u → w.cell? ⟨g, (i + 1) * 3 + j, none⟩ = some u) := fun j u hu => by
    obtain ⟨A', c', e, _, _, _, hc'⟩ := own_open hownH.out
    cases e
    refine hc' g rfl _ _ ?_
    rw [List.getElem?_drop] at hu
    exact hu
  by_cases hcc : c = i + 1
  · obtain rfl : q = i := by omega
    subst hcc
    go_region_law
      (first
        | (refine step_append_own_spare (by rfl) _ _ 50 (by rfl) base 72 i0 3 Try.underlying50 hi0 hz1 g q (q + 1) (xs.take (q * 3)) (by rfl) (own_first hownH.out (by omega)) ⟨g, 0, none⟩ 0 0 [] (by rfl) rfl (fun j u hu => by cases hu) (fun u hu => by cases hu) (by omega) ?_
           intro w2 ho2 hg2
           have e2 : q + 0 = q := rfl
           rw [e2] at ho2 ⊢
           have hdr : xs.drop ((q + 1) * 3) = [] := List.drop_eq_nil_of_le (by rw [hownH.out.1]; exact Nat.le_refl _)
           rw [← hdr] at ho2))
    all_goals
      have d1 : (q : Int) ≤ (q : Int) + 1 := by omega
      have d2 : (q : Int) + 1 ≤ ((q : Int) + 1) := by omega
      have d3 : ¬ q + 1 = q := by omega
      have d4 : q ≤ q + 1 := by omega
      have hs1 : Hid (∀ j, j < 3 → (w2.cell? ⟨g, q * 3 + j, none⟩).isSome = true) := fun j hj => own_some ho2 (by omega)
      have hs2 : Hid (∀ j, j < 3 → w2.frozen? ⟨g, q * 3 + j, none⟩ = false) := fun j hj => own_frozen ho2 _
      have hfin : Hid ((w2.setCells g (q * 3) [.int .i64 0, .int .i64 0, .slice none 0 0]).ownsRow base 72 3 (.slice (some ⟨g, 0, none⟩) q (q + 1)) q (xs.take (q * 3) ++ xs.drop ((q + 1) * 3)) ∧ w.grownBy (w2.setCells g (q * 3) [.int .i64 0, .int .i64 0, .slice none 0 0]) (some g)) :=
        ⟨own_beyond _ _ _ ho2 (Nat.le_refl _), grown_trans (show w.grownBy w2 (some g) from ⟨hg2.os, hg2.tape, hg2.output, hg2.size, hg2.block⟩) (setCells_grown _ _ _ _)⟩
      clear ho2 hg2
      have hclr : Sem.run Try.prog (Builtin.clear_ #[50] 0 #[.slice (some ⟨g, q * 3, none⟩) 1 1]) w2 = .ok (.tuple #[]) (w2.setCells g (q * 3) [.int .i64 0, .int .i64 0, .slice none 0 0]) :=
        run_clear_one w2 50 72 0 (.agg #[.int .i64 0, .int .i64 0, .slice none 0 0]) _ Try.underlying50 (fun w => by simp [zeroValue, typeInfo, hi0, hz0]) (by kernel_rfl) (by intro v hv; simp at hv; rcases hv with rfl | rfl <;> rfl) g (q * 3) 1 hs1.out hs2.out
      go_wp2
      go_ret
      exact ⟨rfl, hfin.out⟩
  · try simp only [hcc, if_false]
    go_region_law
      (first
        | (refine step_append_own_spare (by rfl) _ _ 50 (by rfl) base 72 i0 3 Try.underlying50 hi0 hz1 g i c (xs.take (i * 3)) (by rfl) (own_first hownH.out (by omega)) ⟨g, (i + 1) * 3, none⟩ (q - i) (c - (i + 1)) (xs.drop ((i + 1) * 3)) (by rfl) (by rw [List.length_drop, hownH.out.1]; omega) (fun j u hu => by show w.cell? _ = _; have hh := hcell.out j u hu; by_cases hj : j = 0 <;> simp_all [Addr.add]) (fun u hu => h1H.out u (List.mem_of_mem_drop hu)) (by omega) ?_
           intro w2 ho2 hg2
           have e2 : i + (q - i) = q := by omega
           rw [e2] at ho2 ⊢))
    all_goals
      have d1 : (q : Int) ≤ (q : Int) + 1 := by omega
      have d2 : (q : Int) + 1 ≤ (c : Int) := by omega
      have d3 : ¬ c = q := by omega
      have d4 : q ≤ c := by omega
      have hs1 : Hid (∀ j, j < 3 → (w2.cell? ⟨g, q * 3 + j, none⟩).isSome = true) := fun j hj => own_some ho2 (by omega)
      have hs2 : Hid (∀ j, j < 3 → w2.frozen? ⟨g, q * 3 + j, none⟩ = false) := fun j hj => own_frozen ho2 _
      have hfin : Hid ((w2.setCells g (q * 3) [.int .i64 0, .int .i64 0, .slice none 0 0]).ownsRow base 72 3 (.slice (some ⟨g, 0, none⟩) q c) q (xs.take (i * 3) ++ xs.drop ((i + 1) * 3)) ∧ w.grownBy (w2.setCells g (q * 3) [.int .i64 0, .int .i64 0, .slice none 0 0]) (some g)) :=
        ⟨own_beyond _ _ _ ho2 (Nat.le_refl _), grown_trans (show w.grownBy w2 (some g) from ⟨hg2.os, hg2.tape, hg2.output, hg2.size, hg2.block⟩) (setCells_grown _ _ _ _)⟩
      clear ho2 hg2
      have hclr : Sem.run Try.prog (Builtin.clear_ #[50] 0 #[.slice (some ⟨g, q * 3, none⟩) 1 (c - q)]) w2 = .ok (.tuple #[]) (w2.setCells g (q * 3) [.int .i64 0, .int .i64 0, .slice none 0 0]) :=
        run_clear_one w2 50 72 0 (.agg #[.int .i64 0, .int .i64 0, .slice none 0 0]) _ Try.underlying50 (fun w => by simp [zeroValue, typeInfo, hi0, hz0]) (by kernel_rfl) (by intro v hv; simp at hv; rcases hv with rfl | rfl <;> rfl) g (q * 3) (c - q) hs1.out hs2.out
      go_wp2
      go_ret
      exact ⟨rfl, hfin.out⟩
end Go.Proofs.Ytiffgeglbafenaa.snap
