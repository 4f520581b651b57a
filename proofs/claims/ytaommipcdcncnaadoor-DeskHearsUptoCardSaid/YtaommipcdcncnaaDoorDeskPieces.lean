/-
  Contract of the reference's pieces.
-/
import Derived.Test.YtaommipcdcncnaaDoorDeskCut
import Derived.Test.YtaommipcdcncnaaDoorDeskUndeci
import Derived.Test.YtaommipcdcncnaaDoorDeskTell
namespace Go.Proofs.YtaommipcdcncnaaDoor.desk
open Go.ChangeShapes Go.WideShapes Go.ChangeAt Go.RowKit Go.Proofs.YtaommipcdcncnaaDoor.kit Go.Deep
set_option linter.unusedVariables false
set_option maxRecDepth 100000
theorem own_set {w : World} {B : Nat} {e : TypeId} {size n c g k : Nat} {xs : List Value} (h : w.ownsRow B e size (.slice (some ⟨g, 0, none⟩) n c) n xs) (hk : k < xs.length) (u : Value) : (w.setCell ⟨g, k, none⟩ u).ownsRow B e size (.slice (some ⟨g, 0, none⟩) n c) n (xs.set k u) := by
  refine ⟨by rw [List.length_set]; exact h.1, ?_⟩
  rcases h.2 with ⟨h0, _⟩ | ⟨g', cap, cur, h0, hb, hg, h1, h2, h3, h4⟩
  · cases h0
  · injection h0 with h01 h02 h03
    injection h01 with h01
    injection h01 with h01 _ _
    subst h01
    subst h03
    have hg' : Blk w g e cur := hg
    refine .inr ⟨g, c, cur.setIfInBounds k u, rfl, hb, hg'.put k u, h1, h2, by simpa using h3, ?_⟩
    have hkn : k < n * size := by rw [← h.1]; exact hk
    apply List.ext_getElem?
    intro j
    have h5 := congrArg (fun l : List Value => l[j]?) h4
    simp only [List.getElem?_take] at h5 ⊢
    rw [List.getElem?_set]
    by_cases hj : j < n * size
    · rw [if_pos hj] at h5 ⊢
      have h3' : n * size ≤ cur.size := by rw [h3]; exact Nat.mul_le_mul_right _ h1
      have e1 : (cur.setIfInBounds k u).toList[j]? = (cur.setIfInBounds k u)[j]? := Array.getElem?_toList
      have e2 : cur.toList[j]? = cur[j]? := Array.getElem?_toList
      rw [e1, Array.getElem?_setIfInBounds]
      rw [e2] at h5
      by_cases e : k = j
      · rw [if_pos e, if_pos e, if_pos (by omega), if_pos hk]
      · rw [if_neg e, if_neg e]
        exact h5
    · rw [if_neg hj] at h5 ⊢
      rw [if_neg (by omega)]
      exact h5
theorem own_frozen {w : World} {base : Nat} {e : TypeId} {size : Nat} {g n c : Nat} {m : Nat} {xs : List Value} (h : w.ownsRow base e size (.slice (some ⟨g, 0, none⟩) n c) m xs) (i : Nat) : w.frozen? ⟨g, i, none⟩ = false := by
  rcases h.2 with ⟨h0, _⟩ | ⟨g', cap, cur, h0, _, hg0, _⟩
  · cases h0
  · injection h0 with h0 _ _
    injection h0 with h0
    injection h0 with h0 _ _
    subst h0
    simp [World.frozen?, hg0]
theorem cut_len_le (s : Tx) : (cutT s).length ≤ s.length + 1 := by
  induction s with
  | nil => exact Nat.le_refl _
  | cons c r ih =>
    by_cases hc : c = 32
    · subst hc
      rw [cut_blank, List.length_cons, List.length_cons]
      omega
    · obtain ⟨h, t, e, _⟩ := cut_join r
      rw [cut_cons hc e]
      rw [e] at ih
      simp at ih ⊢
      omega
theorem cut_mem_len : ∀ (s : Tx) (x : Tx), x ∈ cutT s → x.length ≤ s.length
  | [], x, h => by
    have : x = [] := by simpa [cutT] using h
    subst this
    exact Nat.le_refl _
  | c :: r, x, h => by
    by_cases hc : c = 32
    · subst hc
      rw [cut_blank] at h
      rcases List.mem_cons.1 h with rfl | h
      · exact Nat.zero_le _
      · have := cut_mem_len r x h
        rw [List.length_cons]
        omega
    · obtain ⟨a, t, e, _⟩ := cut_join r
      rw [cut_cons hc e] at h
      rcases List.mem_cons.1 h with rfl | h
      · have := cut_mem_len r a (by rw [e]; exact List.mem_cons_self ..)
        simp
        omega
      · have := cut_mem_len r x (by rw [e]; exact List.mem_cons_of_mem _ h)
        rw [List.length_cons]
        omega
theorem str_mid (s : Tx) (w : World) (i : Nat) (h : i < s.length) : (Instr.slice 9 (encStr s) (some (.int .i64 (i : Nat))) (some (.int .i64 ((i : Int) + 1))) none).run Tryd.prog w = .ok (encStr [s.getD i 0]) w := by
  have h1 := run_slice_string (P := Tryd.prog) (w := w) 9 ⟨s.toArray⟩ .i64 .i64 (i : Nat) ((i : Int) + 1) Tryd.underlying9 (by omega) (by omega) (by show (i : Int) + 1 ≤ (s.length : Nat); omega)
  refine h1.trans ?_
  congr 1
  show Value.string _ = Value.string _
  congr 1
  apply ByteArray.ext
  apply Array.toList_inj.1
  rw [Lib.extract_data, show ((i : Int)).toNat = i by omega, show ((i : Int) + 1).toNat = i + 1 by omega, Nat.add_sub_cancel_left]
  show (s.drop i).take 1 = [s.getD i 0]
  rw [List.drop_eq_getElem_cons h]
  show [s[i]] = [s.getD i 0]
  rw [List.getD, List.getElem?_eq_getElem h]
  rfl
def PcsR (s : Tx) (w : World) (e : Ending) (w' : World) : Prop := ∃ v, e = .returned v ∧ w'.ownsRow w.heap.size 9 1 v (cutT s).length ((cutT s).map encStr) ∧ New w w'
set_option maxHeartbeats 1000000 in
theorem pieces_any (s : Tx) (hs : s.length ≤ 1048576) (w : World) : Calls Tryd.prog 33 #[encStr s] w (PcsR s w) := by
  obtain ⟨v, hv⟩ : ∃ v, Hid (v = encStr s) := ⟨_, rfl⟩
  obtain ⟨n, hn⟩ : ∃ n, Hid (n = s.length) := ⟨_, rfl⟩
  rw [← hv.out]
  have hlen : Hid (∀ w' ty, (Builtin.len_ #[9] ty #[v]).run Tryd.prog w' = .ok (.int .i64 (n : Nat)) w') := fun w' ty => by rw [hv.out, hn.out]; exact str_len _ w' ty
  have hix : Hid (∀ w' i, i < n → (Instr.index 9 v (.int .i64 (i : Nat))).run Tryd.prog w' = .ok (.int .u8 ((s.getD i 0).toNat : Nat)) w') := fun w' i hi => by rw [hv.out]; exact str_ix s w' i (by rw [← hn.out]; exact hi)
  have hmid : Hid (∀ w' i, i < n → (Instr.slice 9 v (some (.int .i64 (i : Nat))) (some (.int .i64 ((i : Int) + 1))) none).run Tryd.prog w' = .ok (encStr [s.getD i 0]) w') := fun w' i hi => by rw [hv.out]; exact str_mid s w' i (by rw [← hn.out]; exact hi)
  obtain ⟨W1, hW1⟩ : ∃ W1, W1 = w.alloc (.cells #[.string ⟨#[]⟩] 9) := ⟨_, rfl⟩
  have hN1 : Hid (New w W1) := by show New _ _; rw [hW1]; exact (New.refl w).alloc _
  have hO1 : Hid (W1.ownsRow w.heap.size 9 1 (.slice (some ⟨w.heap.size, 0, none⟩) 1 1) 1 (([[]] : List Tx).map encStr)) := by
    show World.ownsRow _ _ _ _ _ _ _
    rw [hW1]
    have h := World.ownsRow_lit (base := w.heap.size) (e := 9) (size := 1) w #[.string ⟨#[]⟩] 1 (Nat.le_refl _) (by decide) rfl
    exact h
  have hnm : n ≤ 1048576 := by rw [hn.out]; exact hs
  obtain ⟨i1, hi1, hz0, hz1, hz2⟩ := info_parts infoStr
  go_enter Tryd.func33, Tryd.ntmps33
  go_upto_region 3 with fail
  rw [← hW1]
  clear hW1
  go_loopw [4, 3] (fun x ov wr => ∃ i : Nat, x = .int .i64 (i : Nat) ∧ i ≤ n ∧ Hid (wr.ownsRow w.heap.size 9 1 ov (cutT (s.take i)).length ((cutT (s.take i)).map encStr)) ∧ Hid (New w wr)) (fun x _ _ => n - (intOf x).toNat)
  case atStart => exact ⟨0, rfl, Nat.zero_le _, hO1, hN1⟩
  case round =>
    obtain ⟨i, rfl, hi, hO, hN⟩ := hrel
    have hl1 := hlen.out wr
    by_cases hlt : i < n
    · have hil : (i : Int) < (n : Int) := by omega
      have hid : i < s.length := by rw [← hn.out]; exact hlt
      have hxi := hix.out wr i hlt
      have hmd := fun w' => hmid.out w' i hlt
      have htk : Hid (s.take (i + 1) = s.take i ++ [s.getD i 0]) := by
        show _ = _
        rw [List.take_add_one, List.getElem?_eq_getElem hid, Option.toList_some]
        simp [List.getD, hid]
      have hle := cut_len_le (s.take i)
      rw [List.length_take] at hle
      have hle2 : (cutT (s.take i)).length ≤ 1048577 := by omega
      have hmem := Lib.hid (cut_mem_len (s.take i))
      have htl : (s.take i).length ≤ 1048576 := by rw [List.length_take]; omega
      obtain ⟨c, hc⟩ : ∃ c, Hid (c = s.getD i 0) := ⟨_, rfl⟩
      rw [← hc.out] at hxi hmd htk
      obtain ⟨L, hL⟩ : ∃ L, Hid (L = cutT (s.take i)) := ⟨_, rfl⟩
      rw [← hL.out] at hO hle2 hmem
      clear hid hle
      by_cases hb : c = 32
      · subst hb
        have hcut : Hid (cutT (s.take (i + 1)) = L ++ [[]]) := by show _ = _; rw [htk.out, cut_snoc_blank, ← hL.out]
        obtain ⟨K, hK⟩ : ∃ K, Hid (K = L.length) := ⟨_, rfl⟩
        rw [← hK.out] at hO hle2
        have hxi2 : (Instr.index 9 v (.int .i64 (i : Nat))).run Tryd.prog wr = .ok (.int .u8 32) wr := hxi
        clear hxi hmd
        go_wp2_with (first
          | (at_builtin; refine wpList_append_lies _ rfl (.tmp 16) (.tmp 17) 24 rfl w.heap.size 9 i1 _ 1 16 Tryd.underlying24 hi1 hz0 hz1 hz2 rfl (by decide) u3 K (L.map encStr) rfl (hO.out.alloc _) ⟨wr.heap.size, 0, none⟩ 1 1 [encStr []] rfl rfl (World.news_of_block (cs := #[.string _]) (t := 9) (fr := (0, 0)) (heap_alloc_new wr _)) (by simp [Value.oneCell', encStr]) (by omega) (by unfold maxLen; omega) (by omega) (by have := hN.out.size; simp; omega) _ rfl ?_
             intro g6 c6' w6 hown6 hgr6 hat6 hlt6
             have hown6 := Lib.hid hown6
             have hN6 : Hid (New w w6) := (hN.out.alloc _).grown hgr6 fun r e => (hO.out.lt r e).1
             clear hgr6 hat6 hlt6))
        go_roundw
        case rel =>
          refine ⟨i + 1, by go_num, by omega, ?_, hN6⟩
          show World.ownsRow _ _ _ _ _ _ _
          rw [hcut.out, List.length_append, ← hK.out, List.map_append]
          exact hown6.out
        case measure => simp [intOf]; omega
      · have hcb : ((c.toNat : Int) == 32) = false := by
          have : c.toNat ≠ 32 := fun e => hb (UInt8.toNat_inj.1 e)
          simp
          omega
        have hLne : L ≠ [] := by
          obtain ⟨h, t, e, _⟩ := cut_join (s.take i)
          rw [hL.out, e]
          simp
        obtain ⟨l, x, rfl⟩ : ∃ l x, L = l ++ [x] := ⟨L.dropLast, L.getLast hLne, (List.dropLast_concat_getLast hLne).symm⟩
        have hcut : Hid (cutT (s.take (i + 1)) = l ++ [x ++ [c]]) := by show _ = _; rw [htk.out]; exact cut_snoc _ _ _ _ hb hL.out.symm
        have hxl : x.length ≤ 1048576 := Nat.le_trans (hmem.out x (by simp)) htl
        obtain ⟨m, hm⟩ : ∃ m, Hid (m = l.length) := ⟨_, rfl⟩
        have hO2 : Hid (wr.ownsRow w.heap.size 9 1 u3 (m + 1) ((l ++ [x]).map encStr)) := by
          have h := hO.out
          rw [List.length_append, List.length_singleton, ← hm.out] at h
          exact h
        rw [List.length_append, List.length_singleton, ← hm.out] at hle2
        clear hO hLne hb htl
        obtain ⟨A, cp, hu, hcap1, hcap2, hg, hcell⟩ := own_open hO2.out
        obtain ⟨g, rfl, hgb, hgl⟩ := hg (by omega)
        subst hu
        have ex : wr.cell? ⟨g, m, none⟩ = some (encStr x) := hcell g rfl m (encStr x) (by rw [List.map_append, List.getElem?_append_right (by rw [List.length_map, hm.out]; exact Nat.le_refl _), List.length_map, ← hm.out]; simp)
        have efz := own_frozen hO2.out m
        have hw1 : IntKind.i64.wrap (m : Int) = m := IntWalk.i64_in _ (by omega)
        clear hcell hcap1
        go_upto_region 7 with fail
        go_region
        obtain ⟨W6, hW6⟩ : ∃ W6, W6 = (wr.setCell ⟨g, m, none⟩ (.string ((⟨x.toArray⟩ : ByteArray) ++ ⟨#[c]⟩))).drew := ⟨_, rfl⟩
        have hown6 : Hid (W6.ownsRow w.heap.size 9 1 (.slice (some ⟨g, 0, none⟩) (m + 1) cp) (m + 1) ((l ++ [x ++ [c]]).map encStr)) := by
          show World.ownsRow _ _ _ _ _ _ _
          rw [hW6]
          have h := own_set hO2.out (k := m) (by rw [List.length_map, List.length_append, ← hm.out]; simp) (.string ((⟨x.toArray⟩ : ByteArray) ++ ⟨#[c]⟩))
          have e : ((l ++ [x]).map encStr).set m (.string ((⟨x.toArray⟩ : ByteArray) ++ ⟨#[c]⟩)) = (l ++ [x ++ [c]]).map encStr := by
            rw [show (.string ((⟨x.toArray⟩ : ByteArray) ++ ⟨#[c]⟩) : Value) = encStr (x ++ [c]) from enc_add x [c], List.map_append, List.map_append, List.set_append_right _ _ (by rw [List.length_map, hm.out]; exact Nat.le_refl _), List.length_map, ← hm.out, Nat.sub_self]
            rfl
          rw [e] at h
          exact h
        have hN6 : Hid (New w W6) := by
          show New _ _
          rw [hW6]
          exact (hN.out.set (p := ⟨g, m, none⟩) hgb _).drewN 1
        rw [← hW6]
        clear hW6 ex efz hxi hmd
        go_wp2
        go_roundw
        case rel =>
          refine ⟨i + 1, by go_num, by omega, ?_, hN6⟩
          show World.ownsRow _ _ _ _ _ _ _
          rw [hcut.out, List.length_append, List.length_singleton, ← hm.out]
          exact hown6.out
        case measure => simp [intOf]; omega
    · have hin : i = n := by omega
      subst hin
      have hil : ¬ (i : Int) < (i : Int) := by omega
      have htk : Hid (s.take i = s) := List.take_of_length_le (by rw [← hn.out]; exact Nat.le_refl _)
      have hO2 : Hid (wr.ownsRow w.heap.size 9 1 u3 (cutT s).length ((cutT s).map encStr)) := by
        have h := hO.out
        rw [htk.out] at h
        exact h
      go_wp2
      exact bodyPost_ret (v := u3) (by simp [results, Tryd.results33, go_sem]) rfl ⟨u3, rfl, hO2.out, hN.out⟩
end Go.Proofs.YtaommipcdcncnaaDoor.desk
