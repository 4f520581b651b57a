/-
  Contracts of the reference's closure that empties a command's fields, by its flags.
-/
import Derived.Test.YtaommipcdcncnaaDoorDeskCmd
namespace Go.Proofs.YtaommipcdcncnaaDoor.desk
open Go.ChangeShapes Go.WideShapes Go.ChangeAt Go.RowKit Go.Proofs.YtaommipcdcncnaaDoor.kit Go.Deep
set_option linter.unusedVariables false
set_option maxRecDepth 100000
theorem clear_n (P N Q : Nat) (k : Int) (C : Cu) (w0 w : World) (hP : Blk w P 31 (cuA 0 C)) (hN : Blk w N 4 #[.bool true]) (hQ : Blk w Q 31 (cuA k C)) (hPQ : ¬ P = Q) (hNw : New w0 w) (hP0 : w0.heap.size ≤ P) (hN0 : w0.heap.size ≤ N) (hnl : C.nm.length ≤ 1048576) (hol : C.ot.length ≤ 1048576) :
    Calls Tryd.prog 47 #[.bool true, .bool false, .bool false, .bool false, .bool false, .bool false, .bool false, .pointer (some ⟨P, 0, none⟩), .pointer (some ⟨N, 0, none⟩), .pointer (some ⟨Q, 0, none⟩)] w fun e w' => e = .returned (.tuple #[]) ∧ Blk w' P 31 (cuA 0 (clr 110 C)) ∧ Blk w' N 4 #[.bool (goodN C.nm)] ∧ New w0 w' := by
  have hPN : ¬ P = N := blk_ne' hP hN (by decide)
  have hNP : ¬ N = P := fun e => hPN e.symm
  have hNQ : ¬ N = Q := fun e => blk_ne' hQ hN (by decide) e.symm
  have q1 := hQ.cell 1
  have q2 := hQ.cell 2
  have n0 := hN.cell 0
  have nz := hN.frozen 0
  simp [cuA] at q1 q2 n0
  have p1 := hP.cell 1
  have z1 := hP.frozen 1
  simp [cuA] at p1
  have hgn : Hid (∀ w', Calls Tryd.prog 25 #[encStr C.nm] w' fun e w'' => e = .returned (.bool (goodN C.nm)) ∧ w' = w'') := fun w' => goodName_any C.nm (by unfold maxLen; omega) w'
  obtain ⟨gn, hqn⟩ : ∃ q, Hid (q = goodN C.nm) := ⟨_, rfl⟩
  rw [← hqn.out] at hgn ⊢
  replace hP := Lib.hid hP
  replace hN := Lib.hid hN
  replace hNw := Lib.hid hNw
  clear hQ
  cases gn
  · skip
    go_enter Tryd.func47, Tryd.ntmps47
    go_wp2_with (first
    | (go_at_call 25; refine (hgn.out _).mono ?_; rintro e w9 ⟨rfl, rfl⟩))
    go_end0
    refine ⟨rfl, ?_, ?_, ((hNw.out.set (by dsimp only; omega) _).set (by dsimp only; omega) _)⟩
    · have h := ((hP.out.put 1 (encStr [])).far (p := ⟨N, 0, none⟩) hPN (.bool false))
      simpa [cuA, clr, encStr] using h
    · have h := ((hN.out.far (p := ⟨P, 1, none⟩) hNP (encStr [])).put 0 (.bool false))
      simpa using h
  · skip
    go_enter Tryd.func47, Tryd.ntmps47
    go_wp2_with (first
    | (go_at_call 25; refine (hgn.out _).mono ?_; rintro e w9 ⟨rfl, rfl⟩))
    go_end0
    refine ⟨rfl, ?_, ?_, ((hNw.out.set (by dsimp only; omega) _).set (by dsimp only; omega) _)⟩
    · have h := ((hP.out.put 1 (encStr [])).far (p := ⟨N, 0, none⟩) hPN (.bool true))
      simpa [cuA, clr, encStr] using h
    · have h := ((hN.out.far (p := ⟨P, 1, none⟩) hNP (encStr [])).put 0 (.bool true))
      simpa using h
theorem clear_nfx (P N Q : Nat) (k : Int) (C : Cu) (w0 w : World) (hP : Blk w P 31 (cuA 0 C)) (hN : Blk w N 4 #[.bool true]) (hQ : Blk w Q 31 (cuA k C)) (hPQ : ¬ P = Q) (hNw : New w0 w) (hP0 : w0.heap.size ≤ P) (hN0 : w0.heap.size ≤ N) (hnl : C.nm.length ≤ 1048576) (hol : C.ot.length ≤ 1048576) :
    Calls Tryd.prog 47 #[.bool true, .bool false, .bool true, .bool false, .bool false, .bool false, .bool true, .pointer (some ⟨P, 0, none⟩), .pointer (some ⟨N, 0, none⟩), .pointer (some ⟨Q, 0, none⟩)] w fun e w' => e = .returned (.tuple #[]) ∧ Blk w' P 31 (cuA 0 (clr 120 (clr 102 (clr 110 C)))) ∧ Blk w' N 4 #[.bool (goodN C.nm)] ∧ New w0 w' := by
  have hPN : ¬ P = N := blk_ne' hP hN (by decide)
  have hNP : ¬ N = P := fun e => hPN e.symm
  have hNQ : ¬ N = Q := fun e => blk_ne' hQ hN (by decide) e.symm
  have q1 := hQ.cell 1
  have q2 := hQ.cell 2
  have n0 := hN.cell 0
  have nz := hN.frozen 0
  simp [cuA] at q1 q2 n0
  have p1 := hP.cell 1
  have z1 := hP.frozen 1
  simp [cuA] at p1
  have p3 := hP.cell 3
  have z3 := hP.frozen 3
  simp [cuA] at p3
  have p7 := hP.cell 7
  have z7 := hP.frozen 7
  simp [cuA] at p7
  have hgn : Hid (∀ w', Calls Tryd.prog 25 #[encStr C.nm] w' fun e w'' => e = .returned (.bool (goodN C.nm)) ∧ w' = w'') := fun w' => goodName_any C.nm (by unfold maxLen; omega) w'
  obtain ⟨gn, hqn⟩ : ∃ q, Hid (q = goodN C.nm) := ⟨_, rfl⟩
  rw [← hqn.out] at hgn ⊢
  replace hP := Lib.hid hP
  replace hN := Lib.hid hN
  replace hNw := Lib.hid hNw
  clear hQ
  cases gn
  · skip
    go_enter Tryd.func47, Tryd.ntmps47
    go_wp2_with (first
    | (go_at_call 25; refine (hgn.out _).mono ?_; rintro e w9 ⟨rfl, rfl⟩))
    go_end0
    refine ⟨rfl, ?_, ?_, ((((hNw.out.set (by dsimp only; omega) _).set (by dsimp only; omega) _).set (by dsimp only; omega) _).set (by dsimp only; omega) _)⟩
    · have h := ((((hP.out.put 1 (encStr [])).far (p := ⟨N, 0, none⟩) hPN (.bool false)).put 3 (.int .i64 0)).put 7 (.slice none 0 0))
      simpa [cuA, clr, encStr] using h
    · have h := ((((hN.out.far (p := ⟨P, 1, none⟩) hNP (encStr [])).put 0 (.bool false)).far (p := ⟨P, 3, none⟩) hNP (.int .i64 0)).far (p := ⟨P, 7, none⟩) hNP (.slice none 0 0))
      simpa using h
  · skip
    go_enter Tryd.func47, Tryd.ntmps47
    go_wp2_with (first
    | (go_at_call 25; refine (hgn.out _).mono ?_; rintro e w9 ⟨rfl, rfl⟩))
    go_end0
    refine ⟨rfl, ?_, ?_, ((((hNw.out.set (by dsimp only; omega) _).set (by dsimp only; omega) _).set (by dsimp only; omega) _).set (by dsimp only; omega) _)⟩
    · have h := ((((hP.out.put 1 (encStr [])).far (p := ⟨N, 0, none⟩) hPN (.bool true)).put 3 (.int .i64 0)).put 7 (.slice none 0 0))
      simpa [cuA, clr, encStr] using h
    · have h := ((((hN.out.far (p := ⟨P, 1, none⟩) hNP (encStr [])).put 0 (.bool true)).far (p := ⟨P, 3, none⟩) hNP (.int .i64 0)).far (p := ⟨P, 7, none⟩) hNP (.slice none 0 0))
      simpa using h
theorem clear_nfc (P N Q : Nat) (k : Int) (C : Cu) (w0 w : World) (hP : Blk w P 31 (cuA 0 C)) (hN : Blk w N 4 #[.bool true]) (hQ : Blk w Q 31 (cuA k C)) (hPQ : ¬ P = Q) (hNw : New w0 w) (hP0 : w0.heap.size ≤ P) (hN0 : w0.heap.size ≤ N) (hnl : C.nm.length ≤ 1048576) (hol : C.ot.length ≤ 1048576) :
    Calls Tryd.prog 47 #[.bool true, .bool false, .bool true, .bool true, .bool false, .bool false, .bool false, .pointer (some ⟨P, 0, none⟩), .pointer (some ⟨N, 0, none⟩), .pointer (some ⟨Q, 0, none⟩)] w fun e w' => e = .returned (.tuple #[]) ∧ Blk w' P 31 (cuA 0 (clr 99 (clr 102 (clr 110 C)))) ∧ Blk w' N 4 #[.bool (goodN C.nm)] ∧ New w0 w' := by
  have hPN : ¬ P = N := blk_ne' hP hN (by decide)
  have hNP : ¬ N = P := fun e => hPN e.symm
  have hNQ : ¬ N = Q := fun e => blk_ne' hQ hN (by decide) e.symm
  have q1 := hQ.cell 1
  have q2 := hQ.cell 2
  have n0 := hN.cell 0
  have nz := hN.frozen 0
  simp [cuA] at q1 q2 n0
  have p1 := hP.cell 1
  have z1 := hP.frozen 1
  simp [cuA] at p1
  have p3 := hP.cell 3
  have z3 := hP.frozen 3
  simp [cuA] at p3
  have p4 := hP.cell 4
  have z4 := hP.frozen 4
  simp [cuA] at p4
  have hgn : Hid (∀ w', Calls Tryd.prog 25 #[encStr C.nm] w' fun e w'' => e = .returned (.bool (goodN C.nm)) ∧ w' = w'') := fun w' => goodName_any C.nm (by unfold maxLen; omega) w'
  obtain ⟨gn, hqn⟩ : ∃ q, Hid (q = goodN C.nm) := ⟨_, rfl⟩
  rw [← hqn.out] at hgn ⊢
  replace hP := Lib.hid hP
  replace hN := Lib.hid hN
  replace hNw := Lib.hid hNw
  clear hQ
  cases gn
  · skip
    go_enter Tryd.func47, Tryd.ntmps47
    go_wp2_with (first
    | (go_at_call 25; refine (hgn.out _).mono ?_; rintro e w9 ⟨rfl, rfl⟩))
    go_end0
    refine ⟨rfl, ?_, ?_, ((((hNw.out.set (by dsimp only; omega) _).set (by dsimp only; omega) _).set (by dsimp only; omega) _).set (by dsimp only; omega) _)⟩
    · have h := ((((hP.out.put 1 (encStr [])).far (p := ⟨N, 0, none⟩) hPN (.bool false)).put 3 (.int .i64 0)).put 4 (.int .i64 0))
      simpa [cuA, clr, encStr] using h
    · have h := ((((hN.out.far (p := ⟨P, 1, none⟩) hNP (encStr [])).put 0 (.bool false)).far (p := ⟨P, 3, none⟩) hNP (.int .i64 0)).far (p := ⟨P, 4, none⟩) hNP (.int .i64 0))
      simpa using h
  · skip
    go_enter Tryd.func47, Tryd.ntmps47
    go_wp2_with (first
    | (go_at_call 25; refine (hgn.out _).mono ?_; rintro e w9 ⟨rfl, rfl⟩))
    go_end0
    refine ⟨rfl, ?_, ?_, ((((hNw.out.set (by dsimp only; omega) _).set (by dsimp only; omega) _).set (by dsimp only; omega) _).set (by dsimp only; omega) _)⟩
    · have h := ((((hP.out.put 1 (encStr [])).far (p := ⟨N, 0, none⟩) hPN (.bool true)).put 3 (.int .i64 0)).put 4 (.int .i64 0))
      simpa [cuA, clr, encStr] using h
    · have h := ((((hN.out.far (p := ⟨P, 1, none⟩) hNP (encStr [])).put 0 (.bool true)).far (p := ⟨P, 3, none⟩) hNP (.int .i64 0)).far (p := ⟨P, 4, none⟩) hNP (.int .i64 0))
      simpa using h
theorem clear_nc (P N Q : Nat) (k : Int) (C : Cu) (w0 w : World) (hP : Blk w P 31 (cuA 0 C)) (hN : Blk w N 4 #[.bool true]) (hQ : Blk w Q 31 (cuA k C)) (hPQ : ¬ P = Q) (hNw : New w0 w) (hP0 : w0.heap.size ≤ P) (hN0 : w0.heap.size ≤ N) (hnl : C.nm.length ≤ 1048576) (hol : C.ot.length ≤ 1048576) :
    Calls Tryd.prog 47 #[.bool true, .bool false, .bool false, .bool true, .bool false, .bool false, .bool false, .pointer (some ⟨P, 0, none⟩), .pointer (some ⟨N, 0, none⟩), .pointer (some ⟨Q, 0, none⟩)] w fun e w' => e = .returned (.tuple #[]) ∧ Blk w' P 31 (cuA 0 (clr 99 (clr 110 C))) ∧ Blk w' N 4 #[.bool (goodN C.nm)] ∧ New w0 w' := by
  have hPN : ¬ P = N := blk_ne' hP hN (by decide)
  have hNP : ¬ N = P := fun e => hPN e.symm
  have hNQ : ¬ N = Q := fun e => blk_ne' hQ hN (by decide) e.symm
  have q1 := hQ.cell 1
  have q2 := hQ.cell 2
  have n0 := hN.cell 0
  have nz := hN.frozen 0
  simp [cuA] at q1 q2 n0
  have p1 := hP.cell 1
  have z1 := hP.frozen 1
  simp [cuA] at p1
  have p4 := hP.cell 4
  have z4 := hP.frozen 4
  simp [cuA] at p4
  have hgn : Hid (∀ w', Calls Tryd.prog 25 #[encStr C.nm] w' fun e w'' => e = .returned (.bool (goodN C.nm)) ∧ w' = w'') := fun w' => goodName_any C.nm (by unfold maxLen; omega) w'
  obtain ⟨gn, hqn⟩ : ∃ q, Hid (q = goodN C.nm) := ⟨_, rfl⟩
  rw [← hqn.out] at hgn ⊢
  replace hP := Lib.hid hP
  replace hN := Lib.hid hN
  replace hNw := Lib.hid hNw
  clear hQ
  cases gn
  · skip
    go_enter Tryd.func47, Tryd.ntmps47
    go_wp2_with (first
    | (go_at_call 25; refine (hgn.out _).mono ?_; rintro e w9 ⟨rfl, rfl⟩))
    go_end0
    refine ⟨rfl, ?_, ?_, (((hNw.out.set (by dsimp only; omega) _).set (by dsimp only; omega) _).set (by dsimp only; omega) _)⟩
    · have h := (((hP.out.put 1 (encStr [])).far (p := ⟨N, 0, none⟩) hPN (.bool false)).put 4 (.int .i64 0))
      simpa [cuA, clr, encStr] using h
    · have h := (((hN.out.far (p := ⟨P, 1, none⟩) hNP (encStr [])).put 0 (.bool false)).far (p := ⟨P, 4, none⟩) hNP (.int .i64 0))
      simpa using h
  · skip
    go_enter Tryd.func47, Tryd.ntmps47
    go_wp2_with (first
    | (go_at_call 25; refine (hgn.out _).mono ?_; rintro e w9 ⟨rfl, rfl⟩))
    go_end0
    refine ⟨rfl, ?_, ?_, (((hNw.out.set (by dsimp only; omega) _).set (by dsimp only; omega) _).set (by dsimp only; omega) _)⟩
    · have h := (((hP.out.put 1 (encStr [])).far (p := ⟨N, 0, none⟩) hPN (.bool true)).put 4 (.int .i64 0))
      simpa [cuA, clr, encStr] using h
    · have h := (((hN.out.far (p := ⟨P, 1, none⟩) hNP (encStr [])).put 0 (.bool true)).far (p := ⟨P, 4, none⟩) hNP (.int .i64 0))
      simpa using h
theorem clear_o (P N Q : Nat) (k : Int) (C : Cu) (w0 w : World) (hP : Blk w P 31 (cuA 0 C)) (hN : Blk w N 4 #[.bool true]) (hQ : Blk w Q 31 (cuA k C)) (hPQ : ¬ P = Q) (hNw : New w0 w) (hP0 : w0.heap.size ≤ P) (hN0 : w0.heap.size ≤ N) (hnl : C.nm.length ≤ 1048576) (hol : C.ot.length ≤ 1048576) :
    Calls Tryd.prog 47 #[.bool false, .bool true, .bool false, .bool false, .bool false, .bool false, .bool false, .pointer (some ⟨P, 0, none⟩), .pointer (some ⟨N, 0, none⟩), .pointer (some ⟨Q, 0, none⟩)] w fun e w' => e = .returned (.tuple #[]) ∧ Blk w' P 31 (cuA 0 (clr 111 C)) ∧ Blk w' N 4 #[.bool (goodN C.ot)] ∧ New w0 w' := by
  have hPN : ¬ P = N := blk_ne' hP hN (by decide)
  have hNP : ¬ N = P := fun e => hPN e.symm
  have hNQ : ¬ N = Q := fun e => blk_ne' hQ hN (by decide) e.symm
  have q1 := hQ.cell 1
  have q2 := hQ.cell 2
  have n0 := hN.cell 0
  have nz := hN.frozen 0
  simp [cuA] at q1 q2 n0
  have p2 := hP.cell 2
  have z2 := hP.frozen 2
  simp [cuA] at p2
  have hgo : Hid (∀ w', Calls Tryd.prog 25 #[encStr C.ot] w' fun e w'' => e = .returned (.bool (goodN C.ot)) ∧ w' = w'') := fun w' => goodName_any C.ot (by unfold maxLen; omega) w'
  obtain ⟨go, hqo⟩ : ∃ q, Hid (q = goodN C.ot) := ⟨_, rfl⟩
  rw [← hqo.out] at hgo ⊢
  replace hP := Lib.hid hP
  replace hN := Lib.hid hN
  replace hNw := Lib.hid hNw
  clear hQ
  cases go
  · skip
    go_enter Tryd.func47, Tryd.ntmps47
    go_wp2_with (first
    | (go_at_call 25; refine (hgo.out _).mono ?_; rintro e w9 ⟨rfl, rfl⟩))
    go_end0
    refine ⟨rfl, ?_, ?_, ((hNw.out.set (by dsimp only; omega) _).set (by dsimp only; omega) _)⟩
    · have h := ((hP.out.put 2 (encStr [])).far (p := ⟨N, 0, none⟩) hPN (.bool false))
      simpa [cuA, clr, encStr] using h
    · have h := ((hN.out.far (p := ⟨P, 2, none⟩) hNP (encStr [])).put 0 (.bool false))
      simpa using h
  · skip
    go_enter Tryd.func47, Tryd.ntmps47
    go_wp2_with (first
    | (go_at_call 25; refine (hgo.out _).mono ?_; rintro e w9 ⟨rfl, rfl⟩))
    go_end0
    refine ⟨rfl, ?_, ?_, ((hNw.out.set (by dsimp only; omega) _).set (by dsimp only; omega) _)⟩
    · have h := ((hP.out.put 2 (encStr [])).far (p := ⟨N, 0, none⟩) hPN (.bool true))
      simpa [cuA, clr, encStr] using h
    · have h := ((hN.out.far (p := ⟨P, 2, none⟩) hNP (encStr [])).put 0 (.bool true))
      simpa using h
set_option maxHeartbeats 2000000 in
theorem clear_nofc (P N Q : Nat) (k : Int) (C : Cu) (w0 w : World) (hP : Blk w P 31 (cuA 0 C)) (hN : Blk w N 4 #[.bool true]) (hQ : Blk w Q 31 (cuA k C)) (hPQ : ¬ P = Q) (hNw : New w0 w) (hP0 : w0.heap.size ≤ P) (hN0 : w0.heap.size ≤ N) (hnl : C.nm.length ≤ 1048576) (hol : C.ot.length ≤ 1048576) :
    Calls Tryd.prog 47 #[.bool true, .bool true, .bool true, .bool true, .bool false, .bool false, .bool false, .pointer (some ⟨P, 0, none⟩), .pointer (some ⟨N, 0, none⟩), .pointer (some ⟨Q, 0, none⟩)] w fun e w' => e = .returned (.tuple #[]) ∧ Blk w' P 31 (cuA 0 (clr 99 (clr 102 (clr 111 (clr 110 C))))) ∧ Blk w' N 4 #[.bool (goodN C.nm && goodN C.ot)] ∧ New w0 w' := by
  have hPN : ¬ P = N := blk_ne' hP hN (by decide)
  have hNP : ¬ N = P := fun e => hPN e.symm
  have hNQ : ¬ N = Q := fun e => blk_ne' hQ hN (by decide) e.symm
  have q1 := hQ.cell 1
  have q2 := hQ.cell 2
  have n0 := hN.cell 0
  have nz := hN.frozen 0
  simp [cuA] at q1 q2 n0
  have p1 := hP.cell 1
  have z1 := hP.frozen 1
  simp [cuA] at p1
  have p2 := hP.cell 2
  have z2 := hP.frozen 2
  simp [cuA] at p2
  have p3 := hP.cell 3
  have z3 := hP.frozen 3
  simp [cuA] at p3
  have p4 := hP.cell 4
  have z4 := hP.frozen 4
  simp [cuA] at p4
  have hgn : Hid (∀ w', Calls Tryd.prog 25 #[encStr C.nm] w' fun e w'' => e = .returned (.bool (goodN C.nm)) ∧ w' = w'') := fun w' => goodName_any C.nm (by unfold maxLen; omega) w'
  obtain ⟨gn, hqn⟩ : ∃ q, Hid (q = goodN C.nm) := ⟨_, rfl⟩
  rw [← hqn.out] at hgn ⊢
  have hgo : Hid (∀ w', Calls Tryd.prog 25 #[encStr C.ot] w' fun e w'' => e = .returned (.bool (goodN C.ot)) ∧ w' = w'') := fun w' => goodName_any C.ot (by unfold maxLen; omega) w'
  obtain ⟨go, hqo⟩ : ∃ q, Hid (q = goodN C.ot) := ⟨_, rfl⟩
  rw [← hqo.out] at hgo ⊢
  replace hP := Lib.hid hP
  replace hN := Lib.hid hN
  replace hNw := Lib.hid hNw
  clear hQ
  cases gn <;> cases go
  · skip
    go_enter Tryd.func47, Tryd.ntmps47
    go_upto_region 5 with (go_at_call 25; refine (hgn.out _).mono ?_; rintro e w9 ⟨rfl, rfl⟩)
    go_wp2_with (go_at_call 25; refine (hgo.out _).mono ?_; rintro e w9 ⟨rfl, rfl⟩)
    go_end0
    refine ⟨rfl, ?_, ?_, ((((((hNw.out.set (by dsimp only; omega) _).set (by dsimp only; omega) _).set (by dsimp only; omega) _).set (by dsimp only; omega) _).set (by dsimp only; omega) _).set (by dsimp only; omega) _)⟩
    · have h := ((((((hP.out.put 1 (encStr [])).far (p := ⟨N, 0, none⟩) hPN (.bool false)).put 2 (encStr [])).far (p := ⟨N, 0, none⟩) hPN (.bool false)).put 3 (.int .i64 0)).put 4 (.int .i64 0))
      simpa [cuA, clr, encStr] using h
    · have h := ((((((hN.out.far (p := ⟨P, 1, none⟩) hNP (encStr [])).put 0 (.bool false)).far (p := ⟨P, 2, none⟩) hNP (encStr [])).put 0 (.bool false)).far (p := ⟨P, 3, none⟩) hNP (.int .i64 0)).far (p := ⟨P, 4, none⟩) hNP (.int .i64 0))
      simpa using h
  · skip
    go_enter Tryd.func47, Tryd.ntmps47
    go_upto_region 5 with (go_at_call 25; refine (hgn.out _).mono ?_; rintro e w9 ⟨rfl, rfl⟩)
    go_wp2_with (go_at_call 25; refine (hgo.out _).mono ?_; rintro e w9 ⟨rfl, rfl⟩)
    go_end0
    refine ⟨rfl, ?_, ?_, ((((((hNw.out.set (by dsimp only; omega) _).set (by dsimp only; omega) _).set (by dsimp only; omega) _).set (by dsimp only; omega) _).set (by dsimp only; omega) _).set (by dsimp only; omega) _)⟩
    · have h := ((((((hP.out.put 1 (encStr [])).far (p := ⟨N, 0, none⟩) hPN (.bool false)).put 2 (encStr [])).far (p := ⟨N, 0, none⟩) hPN (.bool false)).put 3 (.int .i64 0)).put 4 (.int .i64 0))
      simpa [cuA, clr, encStr] using h
    · have h := ((((((hN.out.far (p := ⟨P, 1, none⟩) hNP (encStr [])).put 0 (.bool false)).far (p := ⟨P, 2, none⟩) hNP (encStr [])).put 0 (.bool false)).far (p := ⟨P, 3, none⟩) hNP (.int .i64 0)).far (p := ⟨P, 4, none⟩) hNP (.int .i64 0))
      simpa using h
  · skip
    go_enter Tryd.func47, Tryd.ntmps47
    go_upto_region 5 with (go_at_call 25; refine (hgn.out _).mono ?_; rintro e w9 ⟨rfl, rfl⟩)
    go_wp2_with (go_at_call 25; refine (hgo.out _).mono ?_; rintro e w9 ⟨rfl, rfl⟩)
    go_end0
    refine ⟨rfl, ?_, ?_, ((((((hNw.out.set (by dsimp only; omega) _).set (by dsimp only; omega) _).set (by dsimp only; omega) _).set (by dsimp only; omega) _).set (by dsimp only; omega) _).set (by dsimp only; omega) _)⟩
    · have h := ((((((hP.out.put 1 (encStr [])).far (p := ⟨N, 0, none⟩) hPN (.bool true)).put 2 (encStr [])).far (p := ⟨N, 0, none⟩) hPN (.bool false)).put 3 (.int .i64 0)).put 4 (.int .i64 0))
      simpa [cuA, clr, encStr] using h
    · have h := ((((((hN.out.far (p := ⟨P, 1, none⟩) hNP (encStr [])).put 0 (.bool true)).far (p := ⟨P, 2, none⟩) hNP (encStr [])).put 0 (.bool false)).far (p := ⟨P, 3, none⟩) hNP (.int .i64 0)).far (p := ⟨P, 4, none⟩) hNP (.int .i64 0))
      simpa using h
  · skip
    go_enter Tryd.func47, Tryd.ntmps47
    go_upto_region 5 with (go_at_call 25; refine (hgn.out _).mono ?_; rintro e w9 ⟨rfl, rfl⟩)
    go_wp2_with (go_at_call 25; refine (hgo.out _).mono ?_; rintro e w9 ⟨rfl, rfl⟩)
    go_end0
    refine ⟨rfl, ?_, ?_, ((((((hNw.out.set (by dsimp only; omega) _).set (by dsimp only; omega) _).set (by dsimp only; omega) _).set (by dsimp only; omega) _).set (by dsimp only; omega) _).set (by dsimp only; omega) _)⟩
    · have h := ((((((hP.out.put 1 (encStr [])).far (p := ⟨N, 0, none⟩) hPN (.bool true)).put 2 (encStr [])).far (p := ⟨N, 0, none⟩) hPN (.bool true)).put 3 (.int .i64 0)).put 4 (.int .i64 0))
      simpa [cuA, clr, encStr] using h
    · have h := ((((((hN.out.far (p := ⟨P, 1, none⟩) hNP (encStr [])).put 0 (.bool true)).far (p := ⟨P, 2, none⟩) hNP (encStr [])).put 0 (.bool true)).far (p := ⟨P, 3, none⟩) hNP (.int .i64 0)).far (p := ⟨P, 4, none⟩) hNP (.int .i64 0))
      simpa using h
theorem clear_k (P N Q : Nat) (k : Int) (C : Cu) (w0 w : World) (hP : Blk w P 31 (cuA 0 C)) (hN : Blk w N 4 #[.bool true]) (hQ : Blk w Q 31 (cuA k C)) (hPQ : ¬ P = Q) (hNw : New w0 w) (hP0 : w0.heap.size ≤ P) (hN0 : w0.heap.size ≤ N) (hnl : C.nm.length ≤ 1048576) (hol : C.ot.length ≤ 1048576) :
    Calls Tryd.prog 47 #[.bool false, .bool false, .bool false, .bool false, .bool false, .bool true, .bool false, .pointer (some ⟨P, 0, none⟩), .pointer (some ⟨N, 0, none⟩), .pointer (some ⟨Q, 0, none⟩)] w fun e w' => e = .returned (.tuple #[]) ∧ Blk w' P 31 (cuA 0 (clr 107 C)) ∧ Blk w' N 4 #[.bool (true)] ∧ New w0 w' := by
  have hPN : ¬ P = N := blk_ne' hP hN (by decide)
  have hNP : ¬ N = P := fun e => hPN e.symm
  have hNQ : ¬ N = Q := fun e => blk_ne' hQ hN (by decide) e.symm
  have q1 := hQ.cell 1
  have q2 := hQ.cell 2
  have n0 := hN.cell 0
  have nz := hN.frozen 0
  simp [cuA] at q1 q2 n0
  have p6 := hP.cell 6
  have z6 := hP.frozen 6
  simp [cuA] at p6
  replace hP := Lib.hid hP
  replace hN := Lib.hid hN
  replace hNw := Lib.hid hNw
  clear hQ
  go_enter Tryd.func47, Tryd.ntmps47
  go_wp2_with fail
  go_end0
  refine ⟨rfl, ?_, ?_, (hNw.out.set (by dsimp only; omega) _)⟩
  · have h := (hP.out.put 6 (.int .i64 0))
    simpa [cuA, clr, encStr] using h
  · have h := (hN.out.far (p := ⟨P, 6, none⟩) hNP (.int .i64 0))
    simpa using h
theorem clear_ck (P N Q : Nat) (k : Int) (C : Cu) (w0 w : World) (hP : Blk w P 31 (cuA 0 C)) (hN : Blk w N 4 #[.bool true]) (hQ : Blk w Q 31 (cuA k C)) (hPQ : ¬ P = Q) (hNw : New w0 w) (hP0 : w0.heap.size ≤ P) (hN0 : w0.heap.size ≤ N) (hnl : C.nm.length ≤ 1048576) (hol : C.ot.length ≤ 1048576) :
    Calls Tryd.prog 47 #[.bool false, .bool false, .bool false, .bool true, .bool false, .bool true, .bool false, .pointer (some ⟨P, 0, none⟩), .pointer (some ⟨N, 0, none⟩), .pointer (some ⟨Q, 0, none⟩)] w fun e w' => e = .returned (.tuple #[]) ∧ Blk w' P 31 (cuA 0 (clr 107 (clr 99 C))) ∧ Blk w' N 4 #[.bool (true)] ∧ New w0 w' := by
  have hPN : ¬ P = N := blk_ne' hP hN (by decide)
  have hNP : ¬ N = P := fun e => hPN e.symm
  have hNQ : ¬ N = Q := fun e => blk_ne' hQ hN (by decide) e.symm
  have q1 := hQ.cell 1
  have q2 := hQ.cell 2
  have n0 := hN.cell 0
  have nz := hN.frozen 0
  simp [cuA] at q1 q2 n0
  have p4 := hP.cell 4
  have z4 := hP.frozen 4
  simp [cuA] at p4
  have p6 := hP.cell 6
  have z6 := hP.frozen 6
  simp [cuA] at p6
  replace hP := Lib.hid hP
  replace hN := Lib.hid hN
  replace hNw := Lib.hid hNw
  clear hQ
  go_enter Tryd.func47, Tryd.ntmps47
  go_wp2_with fail
  go_end0
  refine ⟨rfl, ?_, ?_, ((hNw.out.set (by dsimp only; omega) _).set (by dsimp only; omega) _)⟩
  · have h := ((hP.out.put 4 (.int .i64 0)).put 6 (.int .i64 0))
    simpa [cuA, clr, encStr] using h
  · have h := ((hN.out.far (p := ⟨P, 4, none⟩) hNP (.int .i64 0)).far (p := ⟨P, 6, none⟩) hNP (.int .i64 0))
    simpa using h
theorem clear_fd (P N Q : Nat) (k : Int) (C : Cu) (w0 w : World) (hP : Blk w P 31 (cuA 0 C)) (hN : Blk w N 4 #[.bool true]) (hQ : Blk w Q 31 (cuA k C)) (hPQ : ¬ P = Q) (hNw : New w0 w) (hP0 : w0.heap.size ≤ P) (hN0 : w0.heap.size ≤ N) (hnl : C.nm.length ≤ 1048576) (hol : C.ot.length ≤ 1048576) :
    Calls Tryd.prog 47 #[.bool false, .bool false, .bool true, .bool false, .bool true, .bool false, .bool false, .pointer (some ⟨P, 0, none⟩), .pointer (some ⟨N, 0, none⟩), .pointer (some ⟨Q, 0, none⟩)] w fun e w' => e = .returned (.tuple #[]) ∧ Blk w' P 31 (cuA 0 (clr 100 (clr 102 C))) ∧ Blk w' N 4 #[.bool (true)] ∧ New w0 w' := by
  have hPN : ¬ P = N := blk_ne' hP hN (by decide)
  have hNP : ¬ N = P := fun e => hPN e.symm
  have hNQ : ¬ N = Q := fun e => blk_ne' hQ hN (by decide) e.symm
  have q1 := hQ.cell 1
  have q2 := hQ.cell 2
  have n0 := hN.cell 0
  have nz := hN.frozen 0
  simp [cuA] at q1 q2 n0
  have p3 := hP.cell 3
  have z3 := hP.frozen 3
  simp [cuA] at p3
  have p5 := hP.cell 5
  have z5 := hP.frozen 5
  simp [cuA] at p5
  replace hP := Lib.hid hP
  replace hN := Lib.hid hN
  replace hNw := Lib.hid hNw
  clear hQ
  go_enter Tryd.func47, Tryd.ntmps47
  go_wp2_with fail
  go_end0
  refine ⟨rfl, ?_, ?_, ((hNw.out.set (by dsimp only; omega) _).set (by dsimp only; omega) _)⟩
  · have h := ((hP.out.put 3 (.int .i64 0)).put 5 (.int .i64 0))
    simpa [cuA, clr, encStr] using h
  · have h := ((hN.out.far (p := ⟨P, 3, none⟩) hNP (.int .i64 0)).far (p := ⟨P, 5, none⟩) hNP (.int .i64 0))
    simpa using h
theorem clear_d (P N Q : Nat) (k : Int) (C : Cu) (w0 w : World) (hP : Blk w P 31 (cuA 0 C)) (hN : Blk w N 4 #[.bool true]) (hQ : Blk w Q 31 (cuA k C)) (hPQ : ¬ P = Q) (hNw : New w0 w) (hP0 : w0.heap.size ≤ P) (hN0 : w0.heap.size ≤ N) (hnl : C.nm.length ≤ 1048576) (hol : C.ot.length ≤ 1048576) :
    Calls Tryd.prog 47 #[.bool false, .bool false, .bool false, .bool false, .bool true, .bool false, .bool false, .pointer (some ⟨P, 0, none⟩), .pointer (some ⟨N, 0, none⟩), .pointer (some ⟨Q, 0, none⟩)] w fun e w' => e = .returned (.tuple #[]) ∧ Blk w' P 31 (cuA 0 (clr 100 C)) ∧ Blk w' N 4 #[.bool (true)] ∧ New w0 w' := by
  have hPN : ¬ P = N := blk_ne' hP hN (by decide)
  have hNP : ¬ N = P := fun e => hPN e.symm
  have hNQ : ¬ N = Q := fun e => blk_ne' hQ hN (by decide) e.symm
  have q1 := hQ.cell 1
  have q2 := hQ.cell 2
  have n0 := hN.cell 0
  have nz := hN.frozen 0
  simp [cuA] at q1 q2 n0
  have p5 := hP.cell 5
  have z5 := hP.frozen 5
  simp [cuA] at p5
  replace hP := Lib.hid hP
  replace hN := Lib.hid hN
  replace hNw := Lib.hid hNw
  clear hQ
  go_enter Tryd.func47, Tryd.ntmps47
  go_wp2_with fail
  go_end0
  refine ⟨rfl, ?_, ?_, (hNw.out.set (by dsimp only; omega) _)⟩
  · have h := (hP.out.put 5 (.int .i64 0))
    simpa [cuA, clr, encStr] using h
  · have h := (hN.out.far (p := ⟨P, 5, none⟩) hNP (.int .i64 0))
    simpa using h
end Go.Proofs.YtaommipcdcncnaaDoor.desk
