/-
  The reference's goodName, bytesSized, bytesWith, someBytes.
-/
import Derived.Test.YtmpaheaedaeakaaPoolRefWith
namespace Go.Proofs.Ytmpaheaedaeakaa.pool
open Go.ChangeShapes Go.WideShapes Go.ChangeAt Go.RowKit Go.Proofs.Ytmpaheaedaeakaa.kit Go.Deep Go.Maps
set_option linter.unusedVariables false
set_option maxRecDepth 100000
theorem numL_more (k : IntKind) (f : Nat → Nat) (m : Nat) : numL k f (m + 1) = numL k f m ++ [.int k (f m : Nat)] := by
  unfold numL
  rw [List.range_succ, List.map_append]
  rfl
theorem numL_congr {k : IntKind} {f g : Nat → Nat} {m : Nat} (h : ∀ i, i < m → f i = g i) : numL k f m = numL k g m := by
  unfold numL
  apply List.map_congr_left
  intro i hi
  rw [h i (List.mem_range.1 hi)]
theorem Bs.at' {w : World} {A : Option Addr} {n c : Nat} {b : By} (h : Bs w (.slice A n c) b) (hn : n = b.n) : 0 < n → ∃ g off, A = some ⟨g, off, none⟩ ∧ g < w.heap.size ∧ ∀ i, i < n → w.cell? ⟨g, off + i, none⟩ = some (.int .u8 (b.f i : Nat)) := fun h0 => by
  obtain ⟨A', c', e, _, _, _, hr⟩ := h.read
  cases e
  exact hr.2 h0
theorem bytesSized_any (v : Value) (b : By) (m : Nat) (w : World) (h : Bs w v b) (hb : b.n ≤ 1024) (hm : m ≤ 1024) :
    Calls Try.prog 34 #[v, .int .i64 (m : Nat)] w fun e w' => ∃ u, e = .returned u ∧ Bs w' u (sizeB b m) ∧ New w w' := by
  obtain ⟨i0, hi0, hz0, hz1, hz2⟩ := info_parts infoU8
  obtain ⟨A, c, rfl, hnc, hcm, hA, hrd⟩ := h.read
  obtain ⟨n, hn⟩ : ∃ n, Hid (n = b.n) := ⟨_, rfl⟩
  have hcell : Hid (0 < n → ∃ g off, A = some ⟨g, off, none⟩ ∧ g < w.heap.size ∧ ∀ i, i < n → w.cell? ⟨g, off + i, none⟩ = some (.int .u8 (b.f i : Nat))) := by rw [hn.out]; exact hrd.2
  obtain ⟨f, hf⟩ : ∃ f, Hid (f = (sizeB b m).f) := ⟨_, rfl⟩
  have hf1 : Hid (∀ i, f i = if i < n then b.f i else 0) := fun i => by rw [hf.out, hn.out]; rfl
  have hfin : Hid (∀ w' u, w'.ownsRow w.heap.size 5 1 u m (numL .u8 f m) → Bs w' u (sizeB b m)) := fun w' u ho => by
    rw [hf.out] at ho
    exact Bs.own ho
  rw [← hn.out] at hnc hb ⊢
  clear hrd hA h
  go_enter Try.func34, Try.ntmps34
  go_wp2_with fail
  go_loopw [6, 5] (fun q ov wr => ∃ i, q = .int .i64 (i : Nat) ∧ i ≤ m ∧ Hid (wr.ownsRow w.heap.size 5 1 ov i (numL .u8 f i)) ∧ Hid (New w wr)) (fun q _ _ => m - (intOf q).toNat)
  case atStart => exact ⟨0, rfl, Nat.zero_le _, World.ownsRow_nil _ _ _ _, Lib.hid (New.refl _)⟩
  case round =>
    obtain ⟨i, rfl, hi, hO, hN⟩ := hrel
    have hown := hO.out
    have hnz := hN.out.size
    have hnx := Lib.hid (numL_more .u8 f i)
    by_cases hlt : i < m
    · have hil : (i : Int) < (m : Int) := by omega
      by_cases hin : i < n
      · obtain ⟨g, off, rfl, hg, hc⟩ := hcell.out (by omega)
        have e0 := (hN.out.cell (p := ⟨g, off + i, none⟩) hg).trans (hc i hin)
        have hin' : (i : Int) < (n : Int) := by omega
        obtain ⟨x, hx⟩ : ∃ x, Hid (x = b.f i) := ⟨_, rfl⟩
        rw [← hx.out] at e0
        have hfi : Hid (f i = x) := by show _ = _; rw [hf1.out, if_pos hin, hx.out]
        clear hc
        go_wp2_with (at_builtin; refine wpList_append_own _ rfl _ _ 31 rfl w.heap.size 5 i0 _ 1 1 Try.underlying31 hi0 hz0 hz1 hz2 rfl (by decide) u5 i _ rfl (hown.alloc _) ⟨wr.heap.size, 0, none⟩ 1 1 [.int .u8 (x : Nat)] rfl rfl (World.news_of_block (cs := #[.int .u8 _]) (t := 5) (fr := (0, 0)) (heap_alloc_new wr _)) (by simp [Value.oneCell']) (by unfold maxLen; omega) (by omega) (by simp; omega) ?_; intro v6 w6 hown6 hgr6 hnil6; have hown6 := Lib.hid hown6; have hgr6 := Lib.hid hgr6)
        go_roundw
        case rel => exact ⟨i + 1, by go_num, by omega, by show World.ownsRow _ _ _ _ _ _ _; rw [hnx.out, hfi.out]; exact hown6.out, (hN.out.alloc _).grown hgr6.out fun r e => (hown.lt r e).1⟩
        case measure => simp [intOf]; omega
      · have hin' : ¬ (i : Int) < (n : Int) := by omega
        have hfi : Hid (f i = 0) := by show _ = _; rw [hf1.out, if_neg hin]
        go_wp2_with (at_builtin; refine wpList_append_own _ rfl _ _ 31 rfl w.heap.size 5 i0 _ 1 1 Try.underlying31 hi0 hz0 hz1 hz2 rfl (by decide) u5 i _ rfl (hown.alloc _) ⟨wr.heap.size, 0, none⟩ 1 1 [.int .u8 0] rfl rfl (World.news_of_block (cs := #[.int .u8 _]) (t := 5) (fr := (0, 0)) (heap_alloc_new wr _)) (by simp [Value.oneCell']) (by unfold maxLen; omega) (by omega) (by simp; omega) ?_; intro v6 w6 hown6 hgr6 hnil6; have hown6 := Lib.hid hown6; have hgr6 := Lib.hid hgr6)
        go_roundw
        case rel => exact ⟨i + 1, by go_num, by omega, by show World.ownsRow _ _ _ _ _ _ _; rw [hnx.out, hfi.out]; exact hown6.out, (hN.out.alloc _).grown hgr6.out fun r e => (hown.lt r e).1⟩
        case measure => simp [intOf]; omega
    · have him : m = i := by omega
      subst him
      have hz := Lib.hid (hfin.out _ _ hown)
      clear hown hO
      go_wp2
      exact bodyPost_ret (v := u5) (by simp [results, Try.results34, go_sem]) rfl ⟨_, rfl, hz.out, hN.out⟩
theorem goodName_any (s : Nm) (hs : s.length ≤ maxLen) (w : World) : Calls Try.prog 19 #[encStr s] w fun e w' => e = .returned (.bool (goodN s)) ∧ w = w' := by
  unfold maxLen at hs
  obtain ⟨n, hnn⟩ : ∃ n, n = s.length := ⟨_, rfl⟩
  have hnl : Hid (n = s.length) := hnn
  obtain ⟨v, hv⟩ : ∃ v, Hid (v = encStr s) := ⟨_, rfl⟩
  have hlen : ∀ ty, (Builtin.len_ #[9] ty #[v]).run Try.prog w = .ok (.int .i64 (n : Nat)) w := fun ty => by
    rw [hv.out, hnn]
    simp [Builtin.len_, run_underlying Try.underlying9, goInt, Result.andThen]
    rfl
  have hix : Hid (∀ i, i < n → (Instr.index 9 v (.int .i64 (i : Nat))).run Try.prog w = .ok (.int .u8 ((s.getD i 0).toNat : Nat)) w) := fun i hi => by
    rw [hv.out]
    have h1 := run_index_string (P := Try.prog) (w := w) 9 ⟨s.toArray⟩ .i64 (i : Nat) Try.underlying9
    have h2 : i < s.length := by omega
    rw [h1, dif_pos ⟨by omega, by show (i : Int) < (s.length : Nat); omega⟩]
    have h3 : s.getD i 0 = s[i] := by simp [List.getD, h2]
    rw [h3]
    rfl
  rw [← hv.out]
  rw [← hnn] at hs
  clear hnn
  go_enter Try.func19, Try.ntmps19
  by_cases h0 : n < 1
  · have h0' : (n : Int) < 1 := by omega
    have hr : Hid (goodN s = false) := by show _ = _; unfold goodN; rw [← hnl.out, show decide (1 ≤ n) = false by simp; omega]; simp
    go_wp2
    exact bodyPost_ret (v := .bool false) (by simp [results, Try.results19, go_sem]) rfl ⟨by rw [hr.out], rfl⟩
  have h0' : ¬ (n : Int) < 1 := by omega
  by_cases h8 : 8 < n
  · have h8' : (8 : Int) < (n : Int) := by omega
    have hr : Hid (goodN s = false) := by show _ = _; unfold goodN; rw [← hnl.out, show decide (n ≤ 8) = false by simp; omega]; simp
    go_wp2
    exact bodyPost_ret (v := .bool false) (by simp [results, Try.results19, go_sem]) rfl ⟨by rw [hr.out], rfl⟩
  have h8' : ¬ (8 : Int) < (n : Int) := by omega
  go_wp2_with fail
  go_loopw [3] (fun x wr => ∃ i, x = .int .i64 (i : Nat) ∧ i ≤ n ∧ Hid ((s.take i).all okB = true) ∧ w = wr) (fun x _ => n - (intOf x).toNat)
  case atStart => exact ⟨0, rfl, Nat.zero_le _, Lib.hid rfl, rfl⟩
  case round =>
    obtain ⟨i, rfl, hi, hok, rfl⟩ := hrel
    by_cases hlt : i < n
    · have hil : (i : Int) < (n : Int) := by omega
      have hxi := hix.out i hlt
      have hmo := Lib.hid (all_more okB s i (by have := hnl.out; omega))
      have hoi := Lib.hid (ok_iff (s.getD i 0))
      obtain ⟨b, hb⟩ : ∃ b, Hid (b = s.getD i 0) := ⟨_, rfl⟩
      rw [← hb.out] at hxi hmo hoi
      obtain ⟨k, hk⟩ : ∃ k, Hid (k = b.toNat) := ⟨_, rfl⟩
      rw [← hk.out] at hxi hoi
      by_cases hg : (97 ≤ k ∧ k ≤ 122) ∨ (48 ≤ k ∧ k ≤ 57)
      · have hyes : Hid ((s.take (i + 1)).all okB = true) := by
          show _ = true
          rw [hmo.out, hok.out, hoi.out.2 hg]
          rfl
        rcases hg with ⟨h1, h2⟩ | ⟨h1, h2⟩
        · have h1' : (97 : Int) ≤ (k : Int) := by omega
          have h2' : (k : Int) ≤ 122 := by omega
          go_wp2
          go_roundw
          case rel => exact ⟨i + 1, by go_num, by omega, hyes, trivial⟩
          case measure => simp [intOf]; omega
        · have h0a : ¬ (97 : Int) ≤ (k : Int) := by omega
          have h1' : (48 : Int) ≤ (k : Int) := by omega
          have h2' : (k : Int) ≤ 57 := by omega
          go_wp2
          go_roundw
          case rel => exact ⟨i + 1, by go_num, by omega, hyes, trivial⟩
          case measure => simp [intOf]; omega
      · have hbad : Hid (goodN s = false) := by
          have hbf : okB b = false := by
            cases h : okB b with
            | false => rfl
            | true => exact absurd (hoi.out.1 h) hg
          show _ = false
          unfold goodN
          have h3 := hmo.out
          rw [hbf, Bool.and_false] at h3
          have : s.all okB = false := by
            cases h : s.all okB with
            | false => rfl
            | true =>
              rw [List.all_eq_true] at h
              rw [List.all_eq_false] at h3
              obtain ⟨x, hx, hx2⟩ := h3
              exact absurd (h x (List.mem_of_mem_take hx)) hx2
          rw [this, Bool.false_and]
        by_cases h1 : k < 97
        · have h1' : ¬ (97 : Int) ≤ (k : Int) := by omega
          by_cases h2 : k < 48
          · have h2' : ¬ (48 : Int) ≤ (k : Int) := by omega
            go_wp2
            exact bodyPost_ret (v := .bool false) (by simp [results, Try.results19, go_sem]) rfl ⟨by rw [hbad.out], rfl⟩
          · have h2' : (48 : Int) ≤ (k : Int) := by omega
            have h3' : ¬ (k : Int) ≤ 57 := by omega
            go_wp2
            exact bodyPost_ret (v := .bool false) (by simp [results, Try.results19, go_sem]) rfl ⟨by rw [hbad.out], rfl⟩
        · have h1' : (97 : Int) ≤ (k : Int) := by omega
          have h2' : ¬ (k : Int) ≤ 122 := by omega
          have h3' : (48 : Int) ≤ (k : Int) := by omega
          have h4' : ¬ (k : Int) ≤ 57 := by omega
          go_wp2
          exact bodyPost_ret (v := .bool false) (by simp [results, Try.results19, go_sem]) rfl ⟨by rw [hbad.out], rfl⟩
    · have him : n = i := by omega
      subst him
      have hall : Hid (goodN s = true) := by
        show _ = _
        have h1 := hok.out
        rw [hnl.out, List.take_length] at h1
        unfold goodN
        rw [h1, Bool.true_and, ← hnl.out]
        simp
        omega
      clear hok
      go_wp2
      exact bodyPost_ret (v := .bool true) (by simp [results, Try.results19, go_sem]) rfl ⟨by rw [hall.out], rfl⟩
theorem wpList_append_run {P : Program} {ops : Array Oper} {rest : List Oper} {o : Oper} {a : Act} {Q : Exit → Act → World → Prop} {w w' : World} {v : Value} (hgd : o.guard = none) (s x : Operand) (t : TypeId)
    (ho : o.op = .call { callee := .builtin .append, args := #[s, x], argTypes := #[t, t] }) (sv xv : Value) (hs : a.eval s = sv) (hx : a.eval x = xv) (hr : (Builtin.append_ #[t, t] o.type #[sv, xv]).run P w = .ok v w')
    (h : wpList P ops Q rest (a.put o.dst v) w') : wpList P ops Q (o :: rest) a w :=
  wpList_plain hgd fun K hK => by
    unfold Oper.wp execOp
    simp only [ho, resolve, invoke, builtin, Sem.run_bind, Sem.run_pure, Result.andThen_ok, List.map_toArray, List.map_cons, List.map_nil, hs, hx, hr]
    exact hK _ _ h
theorem copy_bytes (A : Option Addr) (n c : Nat) (f : Nat → Nat) (w : World) (ty : TypeId) (h : RdI .u8 w A n (fun i => (f i : Nat))) (hA : A = none → c = 0) (hn : n ≤ 8192) :
    ∃ A1 c1 w1, (Builtin.append_ #[31, 31] ty #[.slice none 0 0, .slice A n c]).run Try.prog w = .ok (.slice A1 n c1) w1 ∧ w1.ownsRow w.heap.size 5 1 (.slice A1 n c1) n (numL .u8 f n) ∧ New w w1 := by
  obtain ⟨i0, hi0, hz0, hz1, hz2⟩ := info_parts infoU8
  cases A with
  | none =>
    have hn0 : n = 0 := by
      rcases Nat.eq_zero_or_pos n with h0 | h0
      · exact h0
      · obtain ⟨b, off, e, _⟩ := h.2 h0
        cases e
    subst hn0
    obtain rfl := hA rfl
    exact ⟨none, 0, w, run_append_owned_none w w.heap.size 31 ty 5 i0 1 Try.underlying31 hi0 _ 0 [] (World.ownsRow_nil _ _ _ _), World.ownsRow_nil _ _ _ _, New.refl _⟩
  | some a =>
    obtain ⟨v', w', hr, ho, hg, _⟩ := run_append_own w w.heap.size 31 ty 5 i0 _ 1 1 Try.underlying31 hi0 hz0 hz1 hz2 rfl (by decide) (.slice none 0 0) 0 [] (World.ownsRow_nil _ _ _ _) a n c (numL .u8 f n) (by rw [numL_len, Nat.mul_one]) (fun j u hj => by
      have hjn : j < n := by
        have := (List.getElem?_eq_some_iff.1 hj).1
        rwa [numL_len] at this
      obtain ⟨b, off, e, hb, hc⟩ := h.2 (by omega)
      cases e
      exact numL_src (k := .u8) (f := f) hc j u hj) (numL_one .u8 f n) (by unfold maxLen; omega) (by omega) (Nat.le_refl _)
    rw [Nat.zero_add, List.nil_append] at ho
    obtain ⟨A1, c1, rfl, _⟩ := own_open ho
    exact ⟨A1, c1, w', hr, ho, New.grown (New.refl w) hg fun g hg => by cases hg⟩
theorem own_set {w : World} {B : Nat} {e : TypeId} {size n c g k : Nat} {xs : List Value} (h : w.ownsRow B e size (.slice (some ⟨g, 0, none⟩) n c) n xs) (hk : k < xs.length) (u : Value) : (w.setCell ⟨g, k, none⟩ u).ownsRow B e size (.slice (some ⟨g, 0, none⟩) n c) n (xs.set k u) := by
  refine ⟨by rw [List.length_set]; exact h.1, ?_⟩
  rcases h.2 with ⟨h0, _⟩ | ⟨g', cap, cur, h0, hb, hg, h1, h2, h3, h4⟩
  · cases h0
  · injection h0 with h01 h02 h03
    injection h01 with h01
    injection h01 with h01 _ _
    subst h01
    subst h03
    have hg' : Blk w g e cur := hg
    refine .inr ⟨g, c, cur.setIfInBounds k u, rfl, hb, hg'.put k u, h1, h2, by simpa using h3, ?_⟩
    have hkn : k < n * size := by rw [← h.1]; exact hk
    apply List.ext_getElem?
    intro j
    have h5 := congrArg (fun l : List Value => l[j]?) h4
    simp only [List.getElem?_take] at h5 ⊢
    rw [List.getElem?_set]
    by_cases hj : j < n * size
    · rw [if_pos hj] at h5 ⊢
      have h3' : n * size ≤ cur.size := by rw [h3]; exact Nat.mul_le_mul_right _ h1
      have e1 : (cur.setIfInBounds k u).toList[j]? = (cur.setIfInBounds k u)[j]? := Array.getElem?_toList
      have e2 : cur.toList[j]? = cur[j]? := Array.getElem?_toList
      rw [e1, Array.getElem?_setIfInBounds]
      rw [e2] at h5
      by_cases e : k = j
      · rw [if_pos e, if_pos e, if_pos (by omega), if_pos hk]
      · rw [if_neg e, if_neg e]
        exact h5
    · rw [if_neg hj] at h5 ⊢
      rw [if_neg (by omega)]
      exact h5
theorem own_frozen {w : World} {base : Nat} {e : TypeId} {size : Nat} {g n c : Nat} {m : Nat} {xs : List Value} (h : w.ownsRow base e size (.slice (some ⟨g, 0, none⟩) n c) m xs) (i : Nat) : w.frozen? ⟨g, i, none⟩ = false := by
  rcases h.2 with ⟨h0, _⟩ | ⟨g', cap, cur, h0, _, hg0, _⟩
  · cases h0
  · injection h0 with h0 _ _
    injection h0 with h0
    injection h0 with h0 _ _
    subst h0
    simp [World.frozen?, hg0]
theorem numL_at (k : IntKind) (f : Nat → Nat) (m i : Nat) (h : i < m) : (numL k f m)[i]? = some (.int k (f i : Nat)) := by
  simp [numL, h]
theorem numL_set (k : IntKind) (f : Nat → Nat) (m p x : Nat) (h : p < m) : (numL k f m).set p (.int k (x : Nat)) = numL k (fun j => if j = p then x else f j) m := by
  apply List.ext_getElem?
  intro j
  rw [List.getElem?_set]
  unfold numL
  by_cases hj : j < m
  · by_cases e : p = j
    · subst e
      simp [h]
    · simp [e, hj, Ne.symm e]
  · have : m ≤ j := by omega
    by_cases e : p = j
    · omega
    · rw [if_neg e, List.getElem?_eq_none (by simp; omega), List.getElem?_eq_none (by simp; omega)]
set_option maxHeartbeats 1000000 in
theorem bytesWith_any (v : Value) (b : By) (off dn dc : Nat) (R : Option Addr) (d : Nat → Nat) (w : World) (h : Bs w v b) (hb : b.n ≤ 1024) (hd : 1 ≤ dn) (ho : off + dn ≤ 1024) (hR : RdI .u8 w R dn (fun i => (d i : Nat))) :
    Calls Try.prog 33 #[v, .int .i64 (off : Nat), .slice R dn dc] w fun e w' => ∃ u, e = .returned u ∧ Bs w' u (writeB b off dn d) ∧ New w w' := by
  obtain ⟨i0, hi0, hz0, hz1, hz2⟩ := info_parts infoU8
  obtain ⟨A, c, rfl, hnc, hcm, hA, hrd⟩ := h.read
  obtain ⟨A1, c1, w1, hcp, hO1, hN1⟩ := copy_bytes A b.n c b.f w 31 hrd hA (by omega)
  obtain ⟨n, hn⟩ : ∃ n, Hid (n = b.n) := ⟨_, rfl⟩
  obtain ⟨m, hm⟩ : ∃ m, m = max b.n (off + dn) := ⟨_, rfl⟩
  have hRH := Lib.hid hR
  have hO1 := Lib.hid hO1
  have hN1 := Lib.hid hN1
  obtain ⟨f0, hf0⟩ : ∃ f : Nat → Nat, Hid (∀ j, f j = if j < b.n then b.f j else 0) := ⟨fun j => if j < b.n then b.f j else 0, fun j => rfl⟩
  have hst : Hid (w1.ownsRow w.heap.size 5 1 (.slice A1 b.n c1) b.n (numL .u8 f0 b.n)) := by
    show World.ownsRow _ _ _ _ _ _ _
    rw [numL_congr (g := b.f) fun i hi => by rw [hf0.out, if_pos hi]]
    exact hO1.out
  have hf1 : Hid (∀ k, b.n ≤ k → f0 k = 0) := fun k hk => by rw [hf0.out, if_neg (by omega)]
  have hfin : Hid (∀ w' u (g : Nat → Nat), (∀ j, g j = if off ≤ j ∧ j < off + dn then d (j - off) else f0 j) → w'.ownsRow w.heap.size 5 1 u m (numL .u8 g m) → Bs w' u (writeB b off dn d)) := fun w' u g hg ho' => by
    have h1 := Bs.own ho'
    refine h1.congr (by rw [hm]; rfl) fun i hi => ?_
    show g i = if off ≤ i ∧ i < off + dn then d (i - off) else if i < b.n then b.f i else 0
    rw [hg, hf0.out]
  rw [← hn.out] at hnc hb hcp hst hf1 hm ⊢
  clear hrd hA h hR hO1
  go_enter Try.func33, Try.ntmps33
  go_wp2_with (at_builtin; refine wpList_append_run rfl _ _ 31 rfl _ _ rfl rfl hcp ?_)
  go_loopw [7] (fun ov wr => ∃ (k c : Nat) (A : Option Addr), ov = .slice A k c ∧ n ≤ k ∧ k ≤ m ∧ Hid (wr.ownsRow w.heap.size 5 1 (.slice A k c) k (numL .u8 f0 k)) ∧ Hid (New w wr)) (fun ov _ => m - (match ov with | .slice _ k _ => k | _ => 0))
  case atStart => exact ⟨n, c1, A1, rfl, Nat.le_refl _, by omega, hst, hN1⟩
  case round =>
    obtain ⟨k, c, A, rfl, hk1, hk2, hO, hN⟩ := hrel
    have hnz := hN.out.size
    by_cases hlt : k < off + dn
    · have hl' : (k : Int) < (off : Int) + (dn : Int) := by omega
      have hown := hO.out
      have hnx := Lib.hid (numL_more .u8 f0 k)
      have hf2 := Lib.hid (hf1.out k hk1)
      go_wp2_with (at_builtin; refine wpList_append_lies _ rfl _ _ 31 rfl w.heap.size 5 i0 _ 1 1 Try.underlying31 hi0 hz0 hz1 hz2 rfl (by decide) (.slice A k c) k _ rfl (hown.alloc _) ⟨wr.heap.size, 0, none⟩ 1 1 [.int .u8 0] rfl rfl (World.news_of_block (cs := #[.int .u8 _]) (t := 5) (fr := (0, 0)) (heap_alloc_new wr _)) (by simp [Value.oneCell']) (by omega) (by unfold maxLen; omega) (by omega) (by simp; omega) _ rfl ?_; intro g6 c6 w6 hown6 hgr6 hat6 hlt6; have hown6 := Lib.hid hown6; have hgr6 := Lib.hid hgr6)
      go_roundw
      case rel => exact ⟨k + 1, c6, _, by go_num, by omega, by omega, by show World.ownsRow _ _ _ _ _ _ _; rw [hnx.out, hf2.out]; exact hown6.out, (hN.out.alloc _).grown hgr6.out fun r e => (hown.lt r e).1⟩
      case measure => simp; omega
    · have hkm : k = m := by omega
      have hl' : ¬ (k : Int) < (off : Int) + (dn : Int) := by omega
      subst hkm
      obtain ⟨g, hg, _⟩ : ∃ g, A = some ⟨g, 0, none⟩ ∧ True := by
        obtain ⟨A', c', e, _, _, hA', _⟩ := own_open hO.out
        cases e
        obtain ⟨g, e, _⟩ := hA' (by omega)
        exact ⟨g, e, trivial⟩
      subst hg
      obtain ⟨wa, hwa⟩ : ∃ wa, wa = wr := ⟨_, rfl⟩
      have hgb := (hO.out.lt g rfl).1
      go_wp2_with fail
      go_loopw [23] (fun q wx => ∃ (i : Nat) (F : Nat → Nat), q = .int .i64 (i : Nat) ∧ i ≤ dn ∧ Hid (∀ j, F j = if off ≤ j ∧ j < off + i then d (j - off) else f0 j) ∧ Hid (wx.ownsRow w.heap.size 5 1 (.slice (some ⟨g, 0, none⟩) k c) k (numL .u8 F k)) ∧ Hid (New w wx)) (fun q _ => dn - (intOf q).toNat)
      case atStart => exact ⟨0, f0, rfl, Nat.zero_le _, Lib.hid (fun j => by rw [if_neg (by omega)]), hO, hN⟩
      case round =>
        obtain ⟨i, F, rfl, hi, hF, hO2, hN2⟩ := hrel
        by_cases hit : i < dn
        · obtain ⟨g2, o2, rfl, hg2, hc2⟩ := hRH.out.2 (by omega)
          have e0 : wr.cell? ⟨g2, o2 + i, none⟩ = some (.int .u8 (d i : Nat)) := (hN2.out.cell (p := ⟨g2, o2 + i, none⟩) hg2).trans (hc2 i hit)
          have hil : (i : Int) < (dn : Int) := by omega
          have hfz := own_frozen hO2.out (off + i)
          have hcl : wr.cell? ⟨g, off + i, none⟩ = some (.int .u8 (F (off + i) : Nat)) := by
            obtain ⟨A', c', e, _, _, _, hc'⟩ := own_open hO2.out
            cases e
            exact hc' g rfl _ _ (numL_at .u8 F k _ (by omega))
          obtain ⟨x, hx⟩ : ∃ x, Hid (x = d i) := ⟨_, rfl⟩
          rw [← hx.out] at e0
          obtain ⟨p, hp⟩ : ∃ p, p = off + i := ⟨_, rfl⟩
          have hpi : (off : Int) + (i : Int) = (p : Int) := by omega
          have hpk : (p : Int) < (k : Int) := by omega
          have hpk' : p < k := by omega
          rw [← hp] at hfz hcl
          have hpH := Lib.hid hp
          clear hc2 hp
          go_wp2
          go_roundw
          case rel =>
            refine ⟨i + 1, fun j => if j = p then x else F j, by go_num, by omega, Lib.hid (fun j => ?_), ?_, (hN2.out.set (by dsimp only; omega) _)⟩
            · have := hpH.out
              dsimp only
              by_cases e : j = p
              · rw [if_pos e, if_pos (by omega), hx.out]
                congr 1
                omega
              · rw [if_neg e, hF.out]
                by_cases e2 : off ≤ j ∧ j < off + i
                · rw [if_pos e2, if_pos (by omega)]
                · rw [if_neg e2, if_neg (by omega)]
            · show World.ownsRow _ _ _ _ _ _ _
              rw [← numL_set .u8 F k p x hpk']
              exact own_set hO2.out (by rw [numL_len]; exact hpk') _
          case measure => simp [intOf]; omega
        · have hid : i = dn := by omega
          subst hid
          have hz := Lib.hid (hfin.out _ _ F hF.out hO2.out)
          have hil : ¬ (i : Int) < (i : Int) := by omega
          clear hO2 hF
          go_wp2
          exact bodyPost_ret (v := .slice (some ⟨g, 0, none⟩) k c) (by simp [results, Try.results33, go_sem]; omega) rfl ⟨_, rfl, hz.out, hN2.out⟩
end Go.Proofs.Ytmpaheaedaeakaa.pool
