/-
  Contract of span.edges.
-/
import Derived.Test.YthkgcbjfgglciaaSpanLaw
import Derived.Test.YthkgcbjfgglciaaSpanRead
import Derived.Test.YthkgcbjfgglciaaRow
namespace Go.Proofs.Ythkgcbjfgglciaa.spans
open Go.ChangeShapes Go.WideShapes Go.ChangeAt Go.RowKit Go.Proofs.Ythkgcbjfgglciaa.kit Go.Proofs.Ythkgcbjfgglciaa.span Go.Deep
set_option linter.unusedVariables false

theorem infoEdge : (Try.prog.info? 84).map (fun i => (i.zero, i.size, i.bytes)) = some (some (.agg #[.int .i64 0, .int .i64 0]), 2, 16) := by kernel_rfl
def encE (E : List (Int × Int)) : List Value := E.flatMap fun e => [.int .i64 e.1, .int .i64 e.2]
theorem encE_append (E E' : List (Int × Int)) : encE (E ++ E') = encE E ++ encE E' := by unfold encE; rw [List.flatMap_append]
theorem encE_len (E : List (Int × Int)) : (encE E).length = 2 * E.length := by
  induction E with
  | nil => rfl
  | cons e E ih => unfold encE at ih ⊢; simp only [List.flatMap_cons, List.length_append, ih, List.length_cons, List.length_nil]; omega
theorem encE_one (E : List (Int × Int)) : ∀ u ∈ encE E, u.oneCell' = true := by
  intro u hu
  unfold encE at hu
  rw [List.mem_flatMap] at hu
  obtain ⟨e, _, h⟩ := hu
  simp at h
  rcases h with rfl | rfl <;> rfl
theorem encE_at (E : List (Int × Int)) : ∀ i (h : i < E.length), (encE E)[2 * i]? = some (.int .i64 E[i].1) ∧ (encE E)[2 * i + 1]? = some (.int .i64 E[i].2) := by
  induction E with
  | nil => intro i h; cases h
  | cons e E ih =>
    intro i h
    have hc : encE (e :: E) = .int .i64 e.1 :: .int .i64 e.2 :: encE E := rfl
    cases i with
    | zero => rw [hc]; exact ⟨rfl, rfl⟩
    | succ i =>
      have := ih i (by simpa using h)
      rw [hc, show 2 * (i + 1) = 2 * i + 1 + 1 by omega]
      exact this
def edL (F T : Nat → Int) (by_ : Int) : Nat → List (Int × Int)
  | 0 => []
  | k + 1 => edL F T by_ k ++ [(F k, by_), (T k, -by_)]
theorem edL_len (F T : Nat → Int) (b : Int) : ∀ k, (edL F T b k).length = 2 * k
  | 0 => rfl
  | k + 1 => by unfold edL; rw [List.length_append, edL_len F T b k]; simp; omega
theorem blk_at2 (w : World) (o : Obj) (t : TypeId) (cs : Array Value) : ((w.alloc o).alloc (.cells cs t)).heap[w.heap.size + 1]? = some (.cells cs t (0, 0)) := heap_alloc2_new w o _
set_option maxRecDepth 100000 in
theorem edges_any (A : Option Addr) (n c : Nat) (b : Int) (F T : Nat → Int) (w : World) (h : Rd w A n F T) (hn : n ≤ 200) (hb : b = 1 ∨ b = -1) :
    Calls Try.prog 42 #[.slice A n c, .int .i64 b] w fun e w' => ∃ v, e = .returned v ∧ w'.ownsRow w.heap.size 84 2 v (2 * n) (encE (edL F T b n)) ∧ New w w' := by
  obtain ⟨i0, hi0, hz0, hz1, hz2⟩ := info_parts infoEdge
  have hb1 : -1 ≤ b := by omega
  have hb2 : b ≤ 1 := by omega
  have h0 := Lib.hid h
  clear h hb
  go_enter Try.func42, Try.ntmps42
  go_wp2
  go_loopw [10, 5] (fun k v wr => ∃ (q : Nat) (sv : Value), sv = v ∧ k = .int .i64 q ∧ q ≤ n ∧ wr.ownsRow w.heap.size 84 2 sv (2 * q) (encE (edL F T b q)) ∧ New w wr) (fun k _ _ => n - (intOf k).toNat)
  case atStart => exact ⟨0, _, rfl, rfl, by omega, World.ownsRow_nil _ _ _ _, New.refl w⟩
  case round =>
    obtain ⟨q, sv, rfl, rfl, hq, hown, hnw⟩ := hrel
    by_cases hlt : q < n
    · obtain ⟨bb, off, rfl, hbb, hcs⟩ := h0.out.2 (by omega)
      obtain ⟨c0, c1⟩ := hcs q hlt
      have d0 := (hnw.cell hbb).trans c0
      have d1 := (hnw.cell hbb).trans c1
      have hnext : Hid (encE (edL F T b (q + 1)) = encE (edL F T b q) ++ [.int .i64 (F q), .int .i64 b, .int .i64 (T q), .int .i64 (-b)]) := by
        have h1 : edL F T b (q + 1) = edL F T b q ++ [(F q, b), (T q, -b)] := rfl
        rw [h1, encE_append]
        exact (rfl : _ = _)
      have hsz := hnw.size
      have hown1 := Lib.hid ((hown.alloc (.cells #[.int .i64 (F q), .int .i64 (T q)] 30)).alloc (.cells #[.int .i64 (F q), .int .i64 b, .int .i64 (T q), .int .i64 (-b)] 84))
      have hnw1 := Lib.hid ((hnw.alloc (.cells #[.int .i64 (F q), .int .i64 (T q)] 30)).alloc (.cells #[.int .i64 (F q), .int .i64 b, .int .i64 (T q), .int .i64 (-b)] 84))
      have hnb := Lib.hid (blk_at2 wr (.cells #[.int .i64 (F q), .int .i64 (T q)] 30) 84 #[.int .i64 (F q), .int .i64 b, .int .i64 (T q), .int .i64 (-b)])
      clear hcs c0 c1 hown hnw
      have hli : (q : Int) < (n : Int) := by omega
      go_wp2_with (at_builtin; refine wpList_append_own _ rfl _ _ 60 rfl w.heap.size 84 i0 _ 2 16 Try.underlying60 hi0 hz0 hz1 hz2 rfl (by decide) sv (2 * q) (encE (edL F T b q)) rfl hown1.out ⟨wr.heap.size + 1, 0, none⟩ 2 2 [.int .i64 (F q), .int .i64 b, .int .i64 (T q), .int .i64 (-b)] rfl rfl (World.news_of_block (cs := #[.int .i64 _, .int .i64 _, .int .i64 _, .int .i64 _]) (t := 84) (fr := (0, 0)) hnb.out) (by simp [Value.oneCell']) (by unfold maxLen; omega) (by omega) (by simp; omega) ?_; intro v3 w3 hown3 hgrow hnil)
      have hN3 := Lib.hid (hnw1.out.appendO hown1.out (Nat.le_refl _) hgrow)
      rw [← hnext.out] at hown3
      have hown4 := Lib.hid hown3
      clear hown3 hgrow hnil
      go_wp2
      go_roundw
      case rel => exact ⟨q + 1, _, rfl, by go_num, by omega, hown4.out, hN3.out⟩
      case measure => simp [intOf]; omega
    · have hqn : q = n := by omega
      subst hqn
      go_wp2
      go_ret
      exact ⟨_, rfl, hown, hnw⟩
end Go.Proofs.Ythkgcbjfgglciaa.spans
