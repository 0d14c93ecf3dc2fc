/- MerkleCollides: the law's walk: too much, and a place there cannot be. -/
import Derived.Test.YtbabjepblakboaaZc
namespace Go.Proofs.Ytbabjepblakboaa
set_option linter.unusedVariables false
set_option linter.unusedSimpArgs false
open Go.RowKit Go.Lib

theorem Told.fresh {w w' : World} {T : Bool} {va vb : Value} (h : Told w T va vb) (hb : Below w.heap.size w w') : Told w' T va vb := by
  rcases h with h | ⟨h1, ta, tb, h2, h3, h4, h5⟩
  · exact .inl h
  · exact .inr ⟨h1, ta, tb, h2, h3.fresh hb, h4.fresh hb, h5⟩

set_option maxRecDepth 100000 in
set_option maxHeartbeats 4000000 in
theorem ycoll_great (w : World) (v vi : Value) (x : Bs) (n c : Int) (hs l : List Bs) (hx : x.length = 32) (h : Hs w v hs) (hi : Hs w vi l) (h7 : 70 < l.length ∨ 100 < hs.length) :
    Calls Try.prog 10 #[vi, .agg (bvs x).toArray, .agg #[.int .i64 n, .int .i64 c, v]] w fun e w' => e = .returned (.bool true) ∧ Below w.heap.size w w' := by
  obtain ⟨a0, c0, rfl⟩ := h.slice
  obtain ⟨a1, c1, rfl⟩ := hi.slice
  obtain ⟨N, hN⟩ : ∃ N, N = hs.length := ⟨_, rfl⟩
  obtain ⟨M, hM⟩ : ∃ M, M = l.length := ⟨_, rfl⟩
  rw [← hN, ← hM] at h7
  rw [← hN, ← hM]
  clear h hi hN hM
  by_cases h70 : 70 < M
  · have i70 : (70 : Int) < (M : Int) := by omega
    clear h7 h70 hx
    go_enter Try.func10, Try.ntmps10
    go_wp2_with (with_reducible refine stopAt 13 ?_)
    refine Stop.go ?_
    obtain ⟨w1, h1, k1, b1, s1⟩ := alloc_cb w 24 (bvs x)
    obtain ⟨w2, h2, k2, b2, s2⟩ := alloc_cb w1 92 [.int .i64 n, .int .i64 c, .slice a0 N c0]
    change wpList _ _ _ _ _ ((w.alloc (.cells (bvs x).toArray 24)).alloc (.cells [.int .i64 n, .int .i64 c, .slice a0 N c0].toArray 92))
    rw [← h1, ← h2]
    rw [s1] at s2 k2
    have hc2 := k2.cell 2 _ rfl
    have BB := Lib.hid (b1.tr b2)
    have SS := Lib.hid (And.intro (k1.fresh b2) k2)
    clear h1 h2 k1 k2 b1 b2 s1 s2
    go_wp2_with fail
    refine (yknown_any _).mono ?_
    rintro e w3 ⟨rfl, b3⟩
    replace BB := Lib.hid (BB.out.tr b3)
    clear b3
    go_wp2
    go_ret
    exact ⟨rfl, BB.out⟩
  · have i70 : ¬ ((70 : Int) < (M : Int)) := by omega
    have i100 : (100 : Int) < (N : Int) := by omega
    clear h7 h70 hx
    go_enter Try.func10, Try.ntmps10
    go_wp2_with (with_reducible refine stopAt 13 ?_)
    refine Stop.go ?_
    obtain ⟨w1, h1, k1, b1, s1⟩ := alloc_cb w 24 (bvs x)
    obtain ⟨w2, h2, k2, b2, s2⟩ := alloc_cb w1 92 [.int .i64 n, .int .i64 c, .slice a0 N c0]
    change wpList _ _ _ _ _ ((w.alloc (.cells (bvs x).toArray 24)).alloc (.cells [.int .i64 n, .int .i64 c, .slice a0 N c0].toArray 92))
    rw [← h1, ← h2]
    rw [s1] at s2 k2
    have hc2 := k2.cell 2 _ rfl
    have BB := Lib.hid (b1.tr b2)
    have SS := Lib.hid (And.intro (k1.fresh b2) k2)
    clear h1 h2 k1 k2 b1 b2 s1 s2
    go_wp2_with fail
    refine (yknown_any _).mono ?_
    rintro e w3 ⟨rfl, b3⟩
    replace BB := Lib.hid (BB.out.tr b3)
    clear b3
    go_wp2
    go_ret
    exact ⟨rfl, BB.out⟩

set_option maxRecDepth 100000 in
set_option maxHeartbeats 4000000 in
theorem ycoll_count (w : World) (v vi : Value) (x : Bs) (n c : Int) (hs l : List Bs) (hx : x.length = 32) (h : Hs w v hs) (hi : Hs w vi l) (h70 : ¬ 70 < l.length) (h100 : ¬ 100 < hs.length) (hc : c ≠ (l.length : Int)) :
    Calls Try.prog 10 #[vi, .agg (bvs x).toArray, .agg #[.int .i64 n, .int .i64 c, v]] w fun e w' => e = .returned (.bool true) ∧ Below w.heap.size w w' := by
  obtain ⟨a0, c0, rfl⟩ := h.slice
  obtain ⟨a1, c1, rfl⟩ := hi.slice
  obtain ⟨N, hN⟩ : ∃ N, N = hs.length := ⟨_, rfl⟩
  obtain ⟨M, hM⟩ : ∃ M, M = l.length := ⟨_, rfl⟩
  obtain ⟨T, hT⟩ : ∃ T, T = collB l x n c hs := ⟨_, rfl⟩
  obtain ⟨Z, hZ⟩ : ∃ Z, Z = rootB l := ⟨_, rfl⟩
  obtain ⟨C, hC⟩ : ∃ C, C = checkE Z x n c hs := ⟨_, rfl⟩
  have hZl : Z.length = 32 := by rw [hZ]; exact topB_length _ _
  have CO := fun w0 h0 h1 => collide_any w0 (.slice a0 hs.length c0) (.slice a1 l.length c1) x n c hs l hx h0 h1 (by omega)
  have CR := fun w0 h0 => rroot_any w0 (.slice a1 l.length c1) l h0 (by omega)
  have CC := fun w0 h0 => rcheck_any w0 Z x n c (.slice a0 hs.length c0) hs hZl hx h0
  rw [← hT, ← hN, ← hM] at CO
  rw [← hM, ← hZ] at CR
  rw [← hC, ← hN] at CC
  replace CO := Lib.hid CO
  replace CR := Lib.hid CR
  replace CC := Lib.hid CC
  have hTC : T = (C == 0 && !rightB l x n c) := by rw [hT, collB, hC, hZ]
  rw [← hN] at h h100 ⊢
  rw [← hM] at hi h70 ⊢
  rw [← hM] at hc
  have hR : Hid (rightB l x n c = false) := Lib.hid (by rw [rightB, ← hM, decide_eq_false hc, Bool.false_and])
  have hC2 : C = 0 ∨ C = 21 := by
    rw [hC]
    unfold checkE
    split
    · exact .inl rfl
    · exact .inr rfl
  have H := Lib.hid h
  have HI := Lib.hid hi
  have HX := Lib.hid (And.intro hx (And.intro hTC (And.intro hZl (And.intro hC2 (And.intro hM hC)))))
  have i70 : ¬ ((70 : Int) < (M : Int)) := by omega
  have i100 : ¬ ((100 : Int) < (N : Int)) := by omega
  clear h hi hx hZl hTC hC2 hN hM hT hZ hC h70 h100
  have e1 : (c == (M : Int)) = false := by rw [beq_eq_false_iff_ne]; exact hc
  clear hc
  rcases HX.out.2.2.2.1 with h0 | h0
  · subst h0
    have hT0 : T = true := by rw [HX.out.2.1]; rw [hR.out]; rfl
    subst hT0
    go_enter Try.func10, Try.ntmps10
    go_wp2_with (with_reducible refine stopAt 13 ?_)
    refine Stop.go ?_
    obtain ⟨w1, h1, k1, b1, s1⟩ := alloc_cb w 24 (bvs x)
    obtain ⟨w2, h2, k2, b2, s2⟩ := alloc_cb w1 92 [.int .i64 n, .int .i64 c, .slice a0 N c0]
    change wpList _ _ _ _ _ ((w.alloc (.cells (bvs x).toArray 24)).alloc (.cells [.int .i64 n, .int .i64 c, .slice a0 N c0].toArray 92))
    rw [← h1, ← h2]
    rw [s1] at s2 k2
    have hc2 := k2.cell 2 _ rfl
    have BB := Lib.hid (b1.tr b2)
    have SS := Lib.hid (And.intro (k1.fresh b2) k2)
    clear h1 h2 k1 k2 b1 b2 s1 s2
    go_wp2_with (with_reducible refine stopAt 22 ?_)
    refine Stop.go ?_
    clear hc2
    refine wpList_load_agg rfl 24 (.tmp 4) rfl (⟨w.heap.size, 0, none⟩) rfl (bvs x) _ ((At.block SS.out.1).load) Try.underlying24 rfl (by rw [bvs_length, HX.out.1]; exact infoHash) ?_
    go_wp2_with (with_reducible refine stopAt 23 ?_)
    refine Stop.go ?_
    refine wpList_load_agg rfl 92 (.tmp 5) rfl ⟨w.heap.size + 1, 0, none⟩ rfl [.int .i64 n, .int .i64 c, .slice a0 N c0] _ (At.block SS.out.2).load Try.underlying92 rfl (by exact infoPath) ?_
    go_wp2_with fail
    refine (CO.out _ (H.out.fresh BB.out) (HI.out.fresh BB.out)).mono ?_
    rintro e w3 ⟨va, vb, rfl, ht, b3⟩
    replace SS := Lib.hid (And.intro (SS.out.1.fresh b3.drew) (SS.out.2.fresh b3.drew))
    replace BB := Lib.hid (BB.out.tr b3).drew
    have TT := Lib.hid (ht.fresh (show Below w3.heap.size w3 w3.drew from (Below.refl _ w3).drew))
    have hS := Lib.hid (And.intro SS.out.1 (And.intro SS.out.2 (HI.out.fresh BB.out)))
    clear b3 ht SS
    go_wp2_with fail
    refine pl_start 33 rfl (fun w' => CB w' 24 w.heap.size (bvs x) ∧ CB w' 92 (w.heap.size + 1) [.int .i64 n, .int .i64 c, .slice a0 N c0] ∧ Hs w' (.slice a1 M c1) l) (by kernel_rfl) ?_
    obtain ⟨w4, hw4⟩ : ∃ w4, w4 = w3.drew := ⟨_, rfl⟩
    rw [← hw4] at hS BB TT ⊢
    clear hw4
    refine pl_take (i := 0) 29 rfl rfl rfl (by kernel_rfl) (by kernel_rfl) (by kernel_rfl) (by simp [Act.put]) hS.out ?_
    apply Exists.intro
    refine And.intro (fun w' hS' => ?_) ?_
    · go_wp2
      exact ⟨trivial, rfl⟩
    refine pl_take (i := 1) 30 rfl rfl rfl (by kernel_rfl) (by kernel_rfl) (by kernel_rfl) (by simp [Act.put]) hS.out ?_
    apply Exists.intro
    refine And.intro (fun w' hS' => ?_) ?_
    · have hc := hS'.2.1.cell 1 _ rfl
      clear hS'
      go_wp2
      exact ⟨trivial, rfl⟩
    refine pl_take (i := 2) 31 rfl rfl rfl (by kernel_rfl) (by kernel_rfl) (by kernel_rfl) (by simp [Act.put]) hS.out ?_
    apply Exists.intro
    refine And.intro (fun w' hS' => ?_) ?_
    · go_wp2
      exact ⟨trivial, rfl⟩
    refine pl_take (i := 3) 32 rfl rfl rfl (by kernel_rfl) (by kernel_rfl) (by kernel_rfl) (by simp [Act.put]) hS.out ?_
    apply Exists.intro
    refine And.intro (fun w' hS' => ?_) ?_
    · go_wp2
      exact ⟨trivial, rfl⟩
    refine pl_take (i := 4) 33 rfl rfl rfl (by kernel_rfl) (by kernel_rfl) (by kernel_rfl) (by simp [Act.put]) hS.out ?_
    apply Exists.intro
    refine And.intro (fun w' hS' => ?_) ?_
    · go_wp2
      exact ⟨trivial, rfl⟩
    refine pl_take (i := 5) 34 rfl rfl rfl (by kernel_rfl) (by kernel_rfl) (by kernel_rfl) (by simp [Act.put]) hS.out ?_
    apply Exists.intro
    refine And.intro (fun w' hS' => ?_) ?_
    · go_wp2
      exact ⟨trivial, rfl⟩
    refine pl_skip (i := 6) rfl (by kernel_rfl) (by kernel_rfl) (by kernel_rfl) (by kernel_rfl) hS.out ?_
    apply Exists.intro
    refine And.intro (by simp [Act.put, go_sem]; rfl) ?_
    refine pl_skip (i := 7) rfl (by kernel_rfl) (by kernel_rfl) (by kernel_rfl) (by kernel_rfl) hS.out ?_
    apply Exists.intro
    refine And.intro (by simp [Act.put, go_sem]; rfl) ?_
    refine pl_skip (i := 8) rfl (by kernel_rfl) (by kernel_rfl) (by kernel_rfl) (by kernel_rfl) hS.out ?_
    apply Exists.intro
    refine And.intro (by simp [Act.put, go_sem]; rfl) ?_
    refine pl_take (i := 9) 38 rfl rfl rfl (by kernel_rfl) (by kernel_rfl) (by kernel_rfl) (by simp [Act.put]) hS.out ?_
    apply Exists.intro
    refine And.intro (fun w' hS' => ?_) ?_
    · go_wp2
      exact ⟨trivial, rfl⟩
    refine pl_take (i := 10) 39 rfl rfl rfl (by kernel_rfl) (by kernel_rfl) (by kernel_rfl) (by simp [Act.put]) hS.out ?_
    apply Exists.intro
    refine And.intro (fun w' hS' => ?_) ?_
    · go_wp2
      exact ⟨trivial, rfl⟩
    refine pl_skip (i := 11) rfl (by kernel_rfl) (by kernel_rfl) (by kernel_rfl) (by kernel_rfl) hS.out ?_
    apply Exists.intro
    refine And.intro (by simp [Act.put, go_sem]; rfl) ?_
    refine pl_skip (i := 12) rfl (by kernel_rfl) (by kernel_rfl) (by kernel_rfl) (by kernel_rfl) hS.out ?_
    apply Exists.intro
    refine And.intro (by simp [Act.put, go_sem]; rfl) ?_
    refine pl_skip (i := 13) rfl (by kernel_rfl) (by kernel_rfl) (by kernel_rfl) (by kernel_rfl) hS.out ?_
    apply Exists.intro
    refine And.intro (by simp [Act.put, go_sem]; rfl) ?_
    refine pl_skip (i := 14) rfl (by kernel_rfl) (by kernel_rfl) (by kernel_rfl) (by kernel_rfl) hS.out ?_
    apply Exists.intro
    refine And.intro (by simp [Act.put, go_sem]; rfl) ?_
    refine pl_skip (i := 15) rfl (by kernel_rfl) (by kernel_rfl) (by kernel_rfl) (by kernel_rfl) hS.out ?_
    apply Exists.intro
    refine And.intro (by simp [Act.put, go_sem]; rfl) ?_
    refine pl_take (i := 16) 45 rfl rfl rfl (by kernel_rfl) (by kernel_rfl) (by kernel_rfl) (by simp [Act.put]) hS.out ?_
    apply Exists.intro
    refine And.intro (fun w' hS' => ?_) ?_
    · go_wp2
      exact ⟨trivial, rfl⟩
    refine pl_take (i := 17) 46 rfl rfl rfl (by kernel_rfl) (by kernel_rfl) (by kernel_rfl) (by simp [Act.put]) hS.out ?_
    apply Exists.intro
    refine And.intro (fun w' hS' => ?_) ?_
    · go_wp2
      exact ⟨trivial, rfl⟩
    refine pl_skip (i := 18) rfl (by kernel_rfl) (by kernel_rfl) (by kernel_rfl) (by kernel_rfl) hS.out ?_
    apply Exists.intro
    refine And.intro (by simp [Act.put, go_sem]; rfl) ?_
    refine pl_skip (i := 19) rfl (by kernel_rfl) (by kernel_rfl) (by kernel_rfl) (by kernel_rfl) hS.out ?_
    apply Exists.intro
    refine And.intro (by simp [Act.put, go_sem]; rfl) ?_
    refine pl_skip (i := 20) rfl (by kernel_rfl) (by kernel_rfl) (by kernel_rfl) (by kernel_rfl) hS.out ?_
    apply Exists.intro
    refine And.intro (by simp [Act.put, go_sem]; rfl) ?_
    refine pl_skip (i := 21) rfl (by kernel_rfl) (by kernel_rfl) (by kernel_rfl) (by kernel_rfl) hS.out ?_
    apply Exists.intro
    refine And.intro (by simp [Act.put, go_sem]; rfl) ?_
    refine pl_skip (i := 22) rfl (by kernel_rfl) (by kernel_rfl) (by kernel_rfl) (by kernel_rfl) hS.out ?_
    apply Exists.intro
    refine And.intro (by simp [Act.put, go_sem]; rfl) ?_
    refine pl_skip (i := 23) rfl (by kernel_rfl) (by kernel_rfl) (by kernel_rfl) (by kernel_rfl) hS.out ?_
    apply Exists.intro
    refine And.intro (by simp [Act.put, go_sem]; rfl) ?_
    refine pl_skip (i := 24) rfl (by kernel_rfl) (by kernel_rfl) (by kernel_rfl) (by kernel_rfl) hS.out ?_
    apply Exists.intro
    refine And.intro (by simp [Act.put, go_sem]; rfl) ?_
    refine pl_skip (i := 25) rfl (by kernel_rfl) (by kernel_rfl) (by kernel_rfl) (by kernel_rfl) hS.out ?_
    apply Exists.intro
    refine And.intro (by simp [Act.put, go_sem]; rfl) ?_
    refine pl_skip (i := 26) rfl (by kernel_rfl) (by kernel_rfl) (by kernel_rfl) (by kernel_rfl) hS.out ?_
    apply Exists.intro
    refine And.intro (by simp [Act.put, go_sem]; rfl) ?_
    refine pl_skip (i := 27) rfl (by kernel_rfl) (by kernel_rfl) (by kernel_rfl) (by kernel_rfl) hS.out ?_
    apply Exists.intro
    refine And.intro (by simp [Act.put, go_sem]; rfl) ?_
    refine pl_skip (i := 28) rfl (by kernel_rfl) (by kernel_rfl) (by kernel_rfl) (by kernel_rfl) hS.out ?_
    apply Exists.intro
    refine And.intro (by simp [Act.put, go_sem]; rfl) ?_
    refine pl_skip (i := 29) rfl (by kernel_rfl) (by kernel_rfl) (by kernel_rfl) (by kernel_rfl) hS.out ?_
    apply Exists.intro
    refine And.intro (by simp [Act.put, go_sem]; rfl) ?_
    refine pl_skip (i := 30) rfl (by kernel_rfl) (by kernel_rfl) (by kernel_rfl) (by kernel_rfl) hS.out ?_
    apply Exists.intro
    refine And.intro (by simp [Act.put, go_sem]; rfl) ?_
    refine pl_take (i := 31) 60 rfl rfl rfl (by kernel_rfl) (by kernel_rfl) (by kernel_rfl) (by simp [Act.put]) hS.out ?_
    apply Exists.intro
    refine And.intro (fun w' hS' => ?_) ?_
    · go_wp2
      exact ⟨trivial, rfl⟩
    refine pl_take (i := 32) 10 rfl rfl rfl (by kernel_rfl) (by kernel_rfl) (by kernel_rfl) (by simp [Act.put]) hS.out ?_
    apply Exists.intro
    refine And.intro (fun w' hS' => ?_) ?_
    · go_wp2
      exact ⟨trivial, rfl⟩
    refine pl_done (by kernel_rfl) ?_
    go_wp2_with fail
    have bd4 : Below w4.heap.size w4 w4.drew := (Below.refl _ w4).drew
    replace TT := Lib.hid (TT.out.fresh bd4)
    replace hS := Lib.hid (And.intro (hS.out.1.fresh bd4) (And.intro (hS.out.2.1.fresh bd4) (hS.out.2.2.fresh bd4)))
    replace BB := Lib.hid BB.out.drew
    clear bd4
    refine pl_start 9 rfl (fun w' => CB w' 24 w.heap.size (bvs x) ∧ CB w' 92 (w.heap.size + 1) [.int .i64 n, .int .i64 c, .slice a0 N c0] ∧ Hs w' (.slice a1 M c1) l) (by kernel_rfl) ?_
    obtain ⟨w5, hw5⟩ : ∃ w5, w5 = w4.drew := ⟨_, rfl⟩
    rw [← hw5] at hS BB TT ⊢
    clear hw5
    refine pl_take (i := 0) 61 rfl rfl rfl (by kernel_rfl) (by kernel_rfl) (by kernel_rfl) (by simp [Act.put]) hS.out ?_
    apply Exists.intro
    refine And.intro (fun w' hS' => ?_) ?_
    · go_wp2
      exact ⟨trivial, rfl⟩
    refine pl_take (i := 2) 63 rfl rfl rfl (by kernel_rfl) (by kernel_rfl) (by kernel_rfl) (by simp [Act.put]) hS.out ?_
    apply Exists.intro
    refine And.intro (fun w' hS' => ?_) ?_
    · refine wpList_load_agg rfl 24 (.tmp 4) rfl (⟨w.heap.size, 0, none⟩) rfl (bvs x) _ ((At.block hS'.1).load) Try.underlying24 rfl (by rw [bvs_length, HX.out.1]; exact infoHash) ?_
      clear hS'
      go_wp2
      exact ⟨trivial, rfl⟩
    refine pl_take (i := 3) 64 rfl rfl rfl (by kernel_rfl) (by kernel_rfl) (by kernel_rfl) (by simp [Act.put]) hS.out ?_
    apply Exists.intro
    refine And.intro (fun w' hS' => ?_) ?_
    · refine wpList_load_agg rfl 92 (.tmp 5) rfl ⟨w.heap.size + 1, 0, none⟩ rfl [.int .i64 n, .int .i64 c, .slice a0 N c0] _ (At.block hS'.2.1).load Try.underlying92 rfl (by exact infoPath) ?_
      clear hS'
      go_wp2
      exact ⟨trivial, rfl⟩
    refine pl_heavy (i := 1) rfl (by kernel_rfl) ?_
    go_wp2_with fail
    refine (CR.out w5 hS.out.2.2).mono ?_
    rintro e w6 ⟨rfl, b6⟩
    replace hS := Lib.hid (And.intro (hS.out.1.fresh b6) (And.intro (hS.out.2.1.fresh b6) (hS.out.2.2.fresh b6)))
    replace BB := Lib.hid (BB.out.tr b6)
    replace TT := Lib.hid (TT.out.fresh b6)
    clear b6
    go_wp2
    refine And.intro hS.out ?_
    refine pl_heavy (i := 4) rfl (by kernel_rfl) ?_
    go_wp2_with fail
    refine (CC.out w6 (H.out.fresh BB.out)).mono ?_
    rintro e w7 ⟨rfl, b7⟩
    replace hS := Lib.hid (And.intro (hS.out.1.fresh b7) (And.intro (hS.out.2.1.fresh b7) (hS.out.2.2.fresh b7)))
    replace BB := Lib.hid (BB.out.tr b7)
    replace TT := Lib.hid (TT.out.fresh b7)
    clear b7
    go_wp2
    refine And.intro hS.out ?_
    refine pl_take (i := 5) 66 rfl rfl rfl (by kernel_rfl) (by kernel_rfl) (by kernel_rfl) (by simp [Act.put]) hS.out ?_
    apply Exists.intro
    refine And.intro (fun w' hS' => ?_) ?_
    · go_wp2
      exact ⟨trivial, rfl⟩
    refine pl_take (i := 6) 67 rfl rfl rfl (by kernel_rfl) (by kernel_rfl) (by kernel_rfl) (by simp [Act.put]) hS.out ?_
    apply Exists.intro
    refine And.intro (fun w' hS' => ?_) ?_
    · go_wp2
      exact ⟨trivial, rfl⟩
    refine pl_take (i := 7) 68 rfl rfl rfl (by kernel_rfl) (by kernel_rfl) (by kernel_rfl) (by simp [Act.put]) hS.out ?_
    apply Exists.intro
    refine And.intro (fun w' hS' => ?_) ?_
    · refine wpList_unguard' rfl ?_
      clear hS'
      go_wp2
      exact ⟨trivial, rfl⟩
    refine pl_take (i := 8) 69 rfl rfl rfl (by kernel_rfl) (by kernel_rfl) (by kernel_rfl) (by simp [Act.put]) hS.out ?_
    apply Exists.intro
    refine And.intro (fun w' hS' => ?_) ?_
    · go_wp2
      exact ⟨trivial, rfl⟩
    obtain ⟨ta, tb, hle, ra, rb, hne, hsh⟩ : ∃ ta tb : Bs, (ta.length ≤ 100 ∧ tb.length ≤ 100) ∧ Rd w7 1 va ta.length (bvs ta) ∧ Rd w7 1 vb tb.length (bvs tb) ∧ ta ≠ tb ∧ shaB ta = shaB tb := by
      rcases TT.out with ⟨h1, _⟩ | ⟨_, h2⟩
      · cases h1
      · exact h2
    obtain ⟨aa, ca, rfl⟩ := ra.slice
    obtain ⟨ab, cb, rfl⟩ := rb.slice
    have va := ra.conv (P := Try.prog) 42 9 5 Try.underlying42 Try.underlying5 Try.underlying9
    have vb := rb.conv (P := Try.prog) 42 9 5 Try.underlying42 Try.underlying5 Try.underlying9
    have hq : (ta != tb) = true := by simpa using hne
    have RA := Lib.hid ra
    have RB := Lib.hid rb
    have LE := Lib.hid (And.intro hle hsh)
    clear ra rb hne hle hsh TT
    refine pl_done (by kernel_rfl) ?_
    go_wp2_with (with_reducible refine stopAt 91 ?_)
    refine Stop.go ?_
    refine wpList_unguard' rfl ?_
    refine wpList_bin rfl .neq 9 9 (.tmp 88) (.tmp 90) rfl (.bool (ta != tb)) (str_guard _ _ _ _ _ _) (str_neq w7 ta tb) ?_
    rw [hq]
    clear hq va vb
    go_wp2_with fail
    refine (rsum_any w7 _ ta RA.out (by have := LE.out.1.1; omega)).mono ?_
    rintro e w8 ⟨rfl, b8⟩
    replace RB := Lib.hid (RB.out.fresh b8)
    replace BB := Lib.hid (BB.out.tr b8)
    clear b8
    go_wp2_with fail
    refine (rsum_any w8 _ tb RB.out (by have := LE.out.1.2; omega)).mono ?_
    rintro e w9 ⟨rfl, b9⟩
    replace BB := Lib.hid (BB.out.tr b9)
    rw [LE.out.2]
    clear b9
    go_wp2_with (with_reducible refine stopAt 98 ?_)
    refine Stop.go ?_
    refine wpList_unguard' rfl ?_
    refine wpList_bin rfl .eql 24 24 (.tmp 95) (.tmp 97) rfl (.bool true) (eqGuard_agg _ _ _ _ _ _ _ (by kernel_rfl)) (hash_eq_refl _ _ (shaB_length _)) ?_
    go_wp2_with fail
    refine (yknown_any _).mono ?_
    rintro e w10 ⟨rfl, b10⟩
    replace BB := Lib.hid (BB.out.tr b10)
    clear b10
    go_wp2
    go_ret
    exact ⟨rfl, BB.out⟩
  · subst h0
    have hT0 : T = false := by rw [HX.out.2.1]; rfl
    subst hT0
    go_enter Try.func10, Try.ntmps10
    go_wp2_with (with_reducible refine stopAt 13 ?_)
    refine Stop.go ?_
    obtain ⟨w1, h1, k1, b1, s1⟩ := alloc_cb w 24 (bvs x)
    obtain ⟨w2, h2, k2, b2, s2⟩ := alloc_cb w1 92 [.int .i64 n, .int .i64 c, .slice a0 N c0]
    change wpList _ _ _ _ _ ((w.alloc (.cells (bvs x).toArray 24)).alloc (.cells [.int .i64 n, .int .i64 c, .slice a0 N c0].toArray 92))
    rw [← h1, ← h2]
    rw [s1] at s2 k2
    have hc2 := k2.cell 2 _ rfl
    have BB := Lib.hid (b1.tr b2)
    have SS := Lib.hid (And.intro (k1.fresh b2) k2)
    clear h1 h2 k1 k2 b1 b2 s1 s2
    go_wp2_with (with_reducible refine stopAt 22 ?_)
    refine Stop.go ?_
    clear hc2
    refine wpList_load_agg rfl 24 (.tmp 4) rfl (⟨w.heap.size, 0, none⟩) rfl (bvs x) _ ((At.block SS.out.1).load) Try.underlying24 rfl (by rw [bvs_length, HX.out.1]; exact infoHash) ?_
    go_wp2_with (with_reducible refine stopAt 23 ?_)
    refine Stop.go ?_
    refine wpList_load_agg rfl 92 (.tmp 5) rfl ⟨w.heap.size + 1, 0, none⟩ rfl [.int .i64 n, .int .i64 c, .slice a0 N c0] _ (At.block SS.out.2).load Try.underlying92 rfl (by exact infoPath) ?_
    go_wp2_with fail
    refine (CO.out _ (H.out.fresh BB.out) (HI.out.fresh BB.out)).mono ?_
    rintro e w3 ⟨va, vb, rfl, ht, b3⟩
    replace SS := Lib.hid (And.intro (SS.out.1.fresh b3.drew) (SS.out.2.fresh b3.drew))
    replace BB := Lib.hid (BB.out.tr b3).drew
    have TT := Lib.hid (ht.fresh (show Below w3.heap.size w3 w3.drew from (Below.refl _ w3).drew))
    have hS := Lib.hid (And.intro SS.out.1 (And.intro SS.out.2 (HI.out.fresh BB.out)))
    clear b3 ht SS
    go_wp2_with fail
    refine pl_start 33 rfl (fun w' => CB w' 24 w.heap.size (bvs x) ∧ CB w' 92 (w.heap.size + 1) [.int .i64 n, .int .i64 c, .slice a0 N c0] ∧ Hs w' (.slice a1 M c1) l) (by kernel_rfl) ?_
    obtain ⟨w4, hw4⟩ : ∃ w4, w4 = w3.drew := ⟨_, rfl⟩
    rw [← hw4] at hS BB TT ⊢
    clear hw4
    refine pl_take (i := 0) 29 rfl rfl rfl (by kernel_rfl) (by kernel_rfl) (by kernel_rfl) (by simp [Act.put]) hS.out ?_
    apply Exists.intro
    refine And.intro (fun w' hS' => ?_) ?_
    · go_wp2
      exact ⟨trivial, rfl⟩
    refine pl_take (i := 1) 30 rfl rfl rfl (by kernel_rfl) (by kernel_rfl) (by kernel_rfl) (by simp [Act.put]) hS.out ?_
    apply Exists.intro
    refine And.intro (fun w' hS' => ?_) ?_
    · have hc := hS'.2.1.cell 1 _ rfl
      clear hS'
      go_wp2
      exact ⟨trivial, rfl⟩
    refine pl_take (i := 2) 31 rfl rfl rfl (by kernel_rfl) (by kernel_rfl) (by kernel_rfl) (by simp [Act.put]) hS.out ?_
    apply Exists.intro
    refine And.intro (fun w' hS' => ?_) ?_
    · go_wp2
      exact ⟨trivial, rfl⟩
    refine pl_take (i := 3) 32 rfl rfl rfl (by kernel_rfl) (by kernel_rfl) (by kernel_rfl) (by simp [Act.put]) hS.out ?_
    apply Exists.intro
    refine And.intro (fun w' hS' => ?_) ?_
    · go_wp2
      exact ⟨trivial, rfl⟩
    refine pl_take (i := 4) 33 rfl rfl rfl (by kernel_rfl) (by kernel_rfl) (by kernel_rfl) (by simp [Act.put]) hS.out ?_
    apply Exists.intro
    refine And.intro (fun w' hS' => ?_) ?_
    · go_wp2
      exact ⟨trivial, rfl⟩
    refine pl_take (i := 5) 34 rfl rfl rfl (by kernel_rfl) (by kernel_rfl) (by kernel_rfl) (by simp [Act.put]) hS.out ?_
    apply Exists.intro
    refine And.intro (fun w' hS' => ?_) ?_
    · go_wp2
      exact ⟨trivial, rfl⟩
    refine pl_skip (i := 6) rfl (by kernel_rfl) (by kernel_rfl) (by kernel_rfl) (by kernel_rfl) hS.out ?_
    apply Exists.intro
    refine And.intro (by simp [Act.put, go_sem]; rfl) ?_
    refine pl_skip (i := 7) rfl (by kernel_rfl) (by kernel_rfl) (by kernel_rfl) (by kernel_rfl) hS.out ?_
    apply Exists.intro
    refine And.intro (by simp [Act.put, go_sem]; rfl) ?_
    refine pl_skip (i := 8) rfl (by kernel_rfl) (by kernel_rfl) (by kernel_rfl) (by kernel_rfl) hS.out ?_
    apply Exists.intro
    refine And.intro (by simp [Act.put, go_sem]; rfl) ?_
    refine pl_take (i := 9) 38 rfl rfl rfl (by kernel_rfl) (by kernel_rfl) (by kernel_rfl) (by simp [Act.put]) hS.out ?_
    apply Exists.intro
    refine And.intro (fun w' hS' => ?_) ?_
    · go_wp2
      exact ⟨trivial, rfl⟩
    refine pl_take (i := 10) 39 rfl rfl rfl (by kernel_rfl) (by kernel_rfl) (by kernel_rfl) (by simp [Act.put]) hS.out ?_
    apply Exists.intro
    refine And.intro (fun w' hS' => ?_) ?_
    · go_wp2
      exact ⟨trivial, rfl⟩
    refine pl_skip (i := 11) rfl (by kernel_rfl) (by kernel_rfl) (by kernel_rfl) (by kernel_rfl) hS.out ?_
    apply Exists.intro
    refine And.intro (by simp [Act.put, go_sem]; rfl) ?_
    refine pl_skip (i := 12) rfl (by kernel_rfl) (by kernel_rfl) (by kernel_rfl) (by kernel_rfl) hS.out ?_
    apply Exists.intro
    refine And.intro (by simp [Act.put, go_sem]; rfl) ?_
    refine pl_skip (i := 13) rfl (by kernel_rfl) (by kernel_rfl) (by kernel_rfl) (by kernel_rfl) hS.out ?_
    apply Exists.intro
    refine And.intro (by simp [Act.put, go_sem]; rfl) ?_
    refine pl_skip (i := 14) rfl (by kernel_rfl) (by kernel_rfl) (by kernel_rfl) (by kernel_rfl) hS.out ?_
    apply Exists.intro
    refine And.intro (by simp [Act.put, go_sem]; rfl) ?_
    refine pl_skip (i := 15) rfl (by kernel_rfl) (by kernel_rfl) (by kernel_rfl) (by kernel_rfl) hS.out ?_
    apply Exists.intro
    refine And.intro (by simp [Act.put, go_sem]; rfl) ?_
    refine pl_take (i := 16) 45 rfl rfl rfl (by kernel_rfl) (by kernel_rfl) (by kernel_rfl) (by simp [Act.put]) hS.out ?_
    apply Exists.intro
    refine And.intro (fun w' hS' => ?_) ?_
    · go_wp2
      exact ⟨trivial, rfl⟩
    refine pl_take (i := 17) 46 rfl rfl rfl (by kernel_rfl) (by kernel_rfl) (by kernel_rfl) (by simp [Act.put]) hS.out ?_
    apply Exists.intro
    refine And.intro (fun w' hS' => ?_) ?_
    · go_wp2
      exact ⟨trivial, rfl⟩
    refine pl_skip (i := 18) rfl (by kernel_rfl) (by kernel_rfl) (by kernel_rfl) (by kernel_rfl) hS.out ?_
    apply Exists.intro
    refine And.intro (by simp [Act.put, go_sem]; rfl) ?_
    refine pl_skip (i := 19) rfl (by kernel_rfl) (by kernel_rfl) (by kernel_rfl) (by kernel_rfl) hS.out ?_
    apply Exists.intro
    refine And.intro (by simp [Act.put, go_sem]; rfl) ?_
    refine pl_skip (i := 20) rfl (by kernel_rfl) (by kernel_rfl) (by kernel_rfl) (by kernel_rfl) hS.out ?_
    apply Exists.intro
    refine And.intro (by simp [Act.put, go_sem]; rfl) ?_
    refine pl_skip (i := 21) rfl (by kernel_rfl) (by kernel_rfl) (by kernel_rfl) (by kernel_rfl) hS.out ?_
    apply Exists.intro
    refine And.intro (by simp [Act.put, go_sem]; rfl) ?_
    refine pl_skip (i := 22) rfl (by kernel_rfl) (by kernel_rfl) (by kernel_rfl) (by kernel_rfl) hS.out ?_
    apply Exists.intro
    refine And.intro (by simp [Act.put, go_sem]; rfl) ?_
    refine pl_skip (i := 23) rfl (by kernel_rfl) (by kernel_rfl) (by kernel_rfl) (by kernel_rfl) hS.out ?_
    apply Exists.intro
    refine And.intro (by simp [Act.put, go_sem]; rfl) ?_
    refine pl_skip (i := 24) rfl (by kernel_rfl) (by kernel_rfl) (by kernel_rfl) (by kernel_rfl) hS.out ?_
    apply Exists.intro
    refine And.intro (by simp [Act.put, go_sem]; rfl) ?_
    refine pl_skip (i := 25) rfl (by kernel_rfl) (by kernel_rfl) (by kernel_rfl) (by kernel_rfl) hS.out ?_
    apply Exists.intro
    refine And.intro (by simp [Act.put, go_sem]; rfl) ?_
    refine pl_skip (i := 26) rfl (by kernel_rfl) (by kernel_rfl) (by kernel_rfl) (by kernel_rfl) hS.out ?_
    apply Exists.intro
    refine And.intro (by simp [Act.put, go_sem]; rfl) ?_
    refine pl_skip (i := 27) rfl (by kernel_rfl) (by kernel_rfl) (by kernel_rfl) (by kernel_rfl) hS.out ?_
    apply Exists.intro
    refine And.intro (by simp [Act.put, go_sem]; rfl) ?_
    refine pl_skip (i := 28) rfl (by kernel_rfl) (by kernel_rfl) (by kernel_rfl) (by kernel_rfl) hS.out ?_
    apply Exists.intro
    refine And.intro (by simp [Act.put, go_sem]; rfl) ?_
    refine pl_skip (i := 29) rfl (by kernel_rfl) (by kernel_rfl) (by kernel_rfl) (by kernel_rfl) hS.out ?_
    apply Exists.intro
    refine And.intro (by simp [Act.put, go_sem]; rfl) ?_
    refine pl_skip (i := 30) rfl (by kernel_rfl) (by kernel_rfl) (by kernel_rfl) (by kernel_rfl) hS.out ?_
    apply Exists.intro
    refine And.intro (by simp [Act.put, go_sem]; rfl) ?_
    refine pl_take (i := 31) 60 rfl rfl rfl (by kernel_rfl) (by kernel_rfl) (by kernel_rfl) (by simp [Act.put]) hS.out ?_
    apply Exists.intro
    refine And.intro (fun w' hS' => ?_) ?_
    · go_wp2
      exact ⟨trivial, rfl⟩
    refine pl_take (i := 32) 10 rfl rfl rfl (by kernel_rfl) (by kernel_rfl) (by kernel_rfl) (by simp [Act.put]) hS.out ?_
    apply Exists.intro
    refine And.intro (fun w' hS' => ?_) ?_
    · go_wp2
      exact ⟨trivial, rfl⟩
    refine pl_done (by kernel_rfl) ?_
    go_wp2_with fail
    have bd4 : Below w4.heap.size w4 w4.drew := (Below.refl _ w4).drew
    replace TT := Lib.hid (TT.out.fresh bd4)
    replace hS := Lib.hid (And.intro (hS.out.1.fresh bd4) (And.intro (hS.out.2.1.fresh bd4) (hS.out.2.2.fresh bd4)))
    replace BB := Lib.hid BB.out.drew
    clear bd4
    refine pl_start 9 rfl (fun w' => CB w' 24 w.heap.size (bvs x) ∧ CB w' 92 (w.heap.size + 1) [.int .i64 n, .int .i64 c, .slice a0 N c0] ∧ Hs w' (.slice a1 M c1) l) (by kernel_rfl) ?_
    obtain ⟨w5, hw5⟩ : ∃ w5, w5 = w4.drew := ⟨_, rfl⟩
    rw [← hw5] at hS BB TT ⊢
    clear hw5
    refine pl_take (i := 0) 61 rfl rfl rfl (by kernel_rfl) (by kernel_rfl) (by kernel_rfl) (by simp [Act.put]) hS.out ?_
    apply Exists.intro
    refine And.intro (fun w' hS' => ?_) ?_
    · go_wp2
      exact ⟨trivial, rfl⟩
    refine pl_take (i := 2) 63 rfl rfl rfl (by kernel_rfl) (by kernel_rfl) (by kernel_rfl) (by simp [Act.put]) hS.out ?_
    apply Exists.intro
    refine And.intro (fun w' hS' => ?_) ?_
    · refine wpList_load_agg rfl 24 (.tmp 4) rfl (⟨w.heap.size, 0, none⟩) rfl (bvs x) _ ((At.block hS'.1).load) Try.underlying24 rfl (by rw [bvs_length, HX.out.1]; exact infoHash) ?_
      clear hS'
      go_wp2
      exact ⟨trivial, rfl⟩
    refine pl_take (i := 3) 64 rfl rfl rfl (by kernel_rfl) (by kernel_rfl) (by kernel_rfl) (by simp [Act.put]) hS.out ?_
    apply Exists.intro
    refine And.intro (fun w' hS' => ?_) ?_
    · refine wpList_load_agg rfl 92 (.tmp 5) rfl ⟨w.heap.size + 1, 0, none⟩ rfl [.int .i64 n, .int .i64 c, .slice a0 N c0] _ (At.block hS'.2.1).load Try.underlying92 rfl (by exact infoPath) ?_
      clear hS'
      go_wp2
      exact ⟨trivial, rfl⟩
    refine pl_heavy (i := 1) rfl (by kernel_rfl) ?_
    go_wp2_with fail
    refine (CR.out w5 hS.out.2.2).mono ?_
    rintro e w6 ⟨rfl, b6⟩
    replace hS := Lib.hid (And.intro (hS.out.1.fresh b6) (And.intro (hS.out.2.1.fresh b6) (hS.out.2.2.fresh b6)))
    replace BB := Lib.hid (BB.out.tr b6)
    replace TT := Lib.hid (TT.out.fresh b6)
    clear b6
    go_wp2
    refine And.intro hS.out ?_
    refine pl_heavy (i := 4) rfl (by kernel_rfl) ?_
    go_wp2_with fail
    refine (CC.out w6 (H.out.fresh BB.out)).mono ?_
    rintro e w7 ⟨rfl, b7⟩
    replace hS := Lib.hid (And.intro (hS.out.1.fresh b7) (And.intro (hS.out.2.1.fresh b7) (hS.out.2.2.fresh b7)))
    replace BB := Lib.hid (BB.out.tr b7)
    replace TT := Lib.hid (TT.out.fresh b7)
    clear b7
    go_wp2
    refine And.intro hS.out ?_
    refine pl_take (i := 5) 66 rfl rfl rfl (by kernel_rfl) (by kernel_rfl) (by kernel_rfl) (by simp [Act.put]) hS.out ?_
    apply Exists.intro
    refine And.intro (fun w' hS' => ?_) ?_
    · go_wp2
      exact ⟨trivial, rfl⟩
    refine pl_take (i := 6) 67 rfl rfl rfl (by kernel_rfl) (by kernel_rfl) (by kernel_rfl) (by simp [Act.put]) hS.out ?_
    apply Exists.intro
    refine And.intro (fun w' hS' => ?_) ?_
    · go_wp2
      exact ⟨trivial, rfl⟩
    refine pl_skip (i := 7) rfl (by kernel_rfl) (by kernel_rfl) (by kernel_rfl) (by kernel_rfl) hS.out ?_
    apply Exists.intro
    refine And.intro (by simp [Act.put, go_sem]; rfl) ?_
    refine pl_take (i := 8) 69 rfl rfl rfl (by kernel_rfl) (by kernel_rfl) (by kernel_rfl) (by simp [Act.put]) hS.out ?_
    apply Exists.intro
    refine And.intro (fun w' hS' => ?_) ?_
    · go_wp2
      exact ⟨trivial, rfl⟩
    have TN : va = .slice none 0 0 ∧ vb = .slice none 0 0 := by
      rcases TT.out with ⟨_, h1, h2⟩ | ⟨h1, _⟩
      · exact ⟨h1, h2⟩
      · cases h1
    obtain ⟨rfl, rfl⟩ := TN
    refine pl_done (by kernel_rfl) ?_
    go_wp2_with fail
    refine (yknown_any _).mono ?_
    rintro e w9 ⟨rfl, b9⟩
    replace BB := Lib.hid (BB.out.tr b9)
    clear b9
    go_wp2
    go_ret
    exact ⟨rfl, BB.out⟩

end Go.Proofs.Ytbabjepblakboaa
