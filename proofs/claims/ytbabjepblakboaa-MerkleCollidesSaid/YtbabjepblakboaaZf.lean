/- MerkleCollides: the law's walk: a place there is. -/
import Derived.Test.YtbabjepblakboaaZd
import Derived.Test.YtbabjepblakboaaG1
namespace Go.Proofs.Ytbabjepblakboaa
set_option linter.unusedVariables false
set_option linter.unusedSimpArgs false
open Go.RowKit Go.Lib

set_option maxRecDepth 100000 in
set_option maxHeartbeats 4000000 in
theorem ycoll_in (w : World) (v vi : Value) (x : Bs) (n c : Int) (hs l : List Bs) (hx : x.length = 32) (h : Hs w v hs) (hi : Hs w vi l) (h70 : ¬ 70 < l.length) (h100 : ¬ 100 < hs.length) (hc : c = (l.length : Int)) (h0 : 0 ≤ n) (hn : n < c) :
    Calls Try.prog 10 #[vi, .agg (bvs x).toArray, .agg #[.int .i64 n, .int .i64 c, v]] w fun e w' => e = .returned (.bool true) ∧ Below w.heap.size w w' := by
  obtain ⟨p, rfl⟩ := Int.eq_ofNat_of_zero_le h0
  obtain ⟨a0, c0, rfl⟩ := h.slice
  obtain ⟨a1, c1, rfl⟩ := hi.slice
  obtain ⟨N, hN⟩ : ∃ N, N = hs.length := ⟨_, rfl⟩
  obtain ⟨M, hM⟩ : ∃ M, M = l.length := ⟨_, rfl⟩
  obtain ⟨T, hT⟩ : ∃ T, T = collB l x (p : Int) c hs := ⟨_, rfl⟩
  obtain ⟨Z, hZ⟩ : ∃ Z, Z = rootB l := ⟨_, rfl⟩
  obtain ⟨C, hC⟩ : ∃ C, C = checkE Z x (p : Int) c hs := ⟨_, rfl⟩
  have hZl : Z.length = 32 := by rw [hZ]; exact topB_length _ _
  have CO := fun w0 h0 h1 => collide_any w0 (.slice a0 hs.length c0) (.slice a1 l.length c1) x (p : Int) c hs l hx h0 h1 (by omega)
  have CR := fun w0 h0 => rroot_any w0 (.slice a1 l.length c1) l h0 (by omega)
  have CC := fun w0 h0 => rcheck_any w0 Z x (p : Int) c (.slice a0 hs.length c0) hs hZl hx h0
  rw [← hT, ← hN, ← hM] at CO
  rw [← hM, ← hZ] at CR
  rw [← hC, ← hN] at CC
  replace CO := Lib.hid CO
  replace CR := Lib.hid CR
  replace CC := Lib.hid CC
  have hTC : T = (C == 0 && !rightB l x (p : Int) c) := by rw [hT, collB, hC, hZ]
  rw [← hN] at h h100 ⊢
  rw [← hM] at hi h70 ⊢
  rw [← hM] at hc
  have hpM : p < M := by omega
  obtain ⟨y, hy⟩ : ∃ y, l[p]? = some y := ⟨_, List.getElem?_eq_getElem (by rw [← hM]; exact hpM)⟩
  have HY := Lib.hid (And.intro hy (hi.1.get hy))
  have hR0 : rightB l x (p : Int) c = (y == x) := by
    have h1 : l.getD p [] = y := by rw [List.getD_eq_getElem?_getD, hy]; rfl
    have h2 : l.getD ((p : Int).toNat) [] = y := h1
    rw [rightB, ← hM, decide_eq_true hc, Bool.true_and, h2]
  obtain ⟨ad1, c1', he1⟩ := hi.isSome hM.symm (by omega)
  simp only [Value.slice.injEq, true_and] at he1
  obtain ⟨rfl, rfl⟩ := he1
  have HR0 := Lib.hid hR0
  have hC2 : C = 0 ∨ C = 21 := by
    rw [hC]
    unfold checkE
    split
    · exact .inl rfl
    · exact .inr rfl
  have H := Lib.hid h
  have HI := Lib.hid hi
  have HX := Lib.hid (And.intro hx (And.intro hTC (And.intro hZl (And.intro hC2 (And.intro hM hC)))))
  have i70 : ¬ ((70 : Int) < (M : Int)) := by omega
  have i100 : ¬ ((100 : Int) < (N : Int)) := by omega
  clear h hi hx hZl hTC hC2 hN hM hT hZ hC h70 h100
  have e1 : (c == (M : Int)) = true := by rw [beq_iff_eq]; exact hc
  have e2 : (0 : Int) ≤ (p : Int) := by omega
  have e3 : (p : Int) < (M : Int) := by omega
  have Q1 : Hid (decide ((0 : Int) ≤ (p : Int)) = true) := Lib.hid (decide_eq_true e2)
  have Q2 : Hid (decide ((p : Int) < (M : Int)) = true) := Lib.hid (decide_eq_true e3)
  have e4 : max (p : Int) 0 = (p : Int) := by omega
  have e5 : max ((M : Int) - 1) 0 = (M : Int) - 1 := by omega
  have e6 : min (p : Int) ((M : Int) - 1) = (p : Int) := by omega
  clear hc hn h0 hR0 hy hpM
  cases hyx : (y == x)
  · have HYX : Hid ((y == x) = false) := Lib.hid hyx
    clear hyx
    rcases HX.out.2.2.2.1 with h0 | h0
    · subst h0
      have hT0 : T = true := by rw [HX.out.2.1]; rw [HR0.out, HYX.out]; rfl
      subst hT0
      go_enter Try.func10, Try.ntmps10
      go_wp2_with (with_reducible refine stopAt 13 ?_)
      refine Stop.go ?_
      obtain ⟨w1, h1, k1, b1, s1⟩ := alloc_cb w 24 (bvs x)
      obtain ⟨w2, h2, k2, b2, s2⟩ := alloc_cb w1 92 [.int .i64 (p : Int), .int .i64 c, .slice a0 N c0]
      change wpList _ _ _ _ _ ((w.alloc (.cells (bvs x).toArray 24)).alloc (.cells [.int .i64 (p : Int), .int .i64 c, .slice a0 N c0].toArray 92))
      rw [← h1, ← h2]
      rw [s1] at s2 k2
      have hc2 := k2.cell 2 _ rfl
      have BB := Lib.hid (b1.tr b2)
      have SS := Lib.hid (And.intro (k1.fresh b2) k2)
      clear h1 h2 k1 k2 b1 b2 s1 s2
      go_wp2_with (with_reducible refine stopAt 22 ?_)
      refine Stop.go ?_
      clear hc2
      refine wpList_load_agg rfl 24 (.tmp 4) rfl (⟨w.heap.size, 0, none⟩) rfl (bvs x) _ ((At.block SS.out.1).load) Try.underlying24 rfl (by rw [bvs_length, HX.out.1]; exact infoHash) ?_
      go_wp2_with (with_reducible refine stopAt 23 ?_)
      refine Stop.go ?_
      refine wpList_load_agg rfl 92 (.tmp 5) rfl ⟨w.heap.size + 1, 0, none⟩ rfl [.int .i64 (p : Int), .int .i64 c, .slice a0 N c0] _ (At.block SS.out.2).load Try.underlying92 rfl (by exact infoPath) ?_
      go_wp2_with fail
      refine (CO.out _ (H.out.fresh BB.out) (HI.out.fresh BB.out)).mono ?_
      rintro e w3 ⟨va, vb, rfl, ht, b3⟩
      replace SS := Lib.hid (And.intro (SS.out.1.fresh b3.drew) (SS.out.2.fresh b3.drew))
      replace BB := Lib.hid (BB.out.tr b3).drew
      have TT := Lib.hid (ht.fresh (show Below w3.heap.size w3 w3.drew from (Below.refl _ w3).drew))
      have hS := Lib.hid (And.intro SS.out.1 (And.intro SS.out.2 (HI.out.fresh BB.out)))
      clear b3 ht SS
      go_wp2_with fail
      refine pl_start 33 rfl (fun w' => CB w' 24 w.heap.size (bvs x) ∧ CB w' 92 (w.heap.size + 1) [.int .i64 (p : Int), .int .i64 c, .slice a0 N c0] ∧ Hs w' (.slice (some ad1) M c1) l) (by kernel_rfl) ?_
      obtain ⟨w4, hw4⟩ : ∃ w4, w4 = w3.drew := ⟨_, rfl⟩
      rw [← hw4] at hS BB TT ⊢
      clear hw4
      refine pl_take (i := 0) 29 rfl rfl rfl (by kernel_rfl) (by kernel_rfl) (by kernel_rfl) (by simp [Act.put]) hS.out ?_
      apply Exists.intro
      refine And.intro (fun w' hS' => ?_) ?_
      · go_wp2
        exact ⟨trivial, rfl⟩
      refine pl_take (i := 1) 30 rfl rfl rfl (by kernel_rfl) (by kernel_rfl) (by kernel_rfl) (by simp [Act.put]) hS.out ?_
      apply Exists.intro
      refine And.intro (fun w' hS' => ?_) ?_
      · have hc := hS'.2.1.cell 1 _ rfl
        clear hS'
        go_wp2
        exact ⟨trivial, rfl⟩
      refine pl_take (i := 2) 31 rfl rfl rfl (by kernel_rfl) (by kernel_rfl) (by kernel_rfl) (by simp [Act.put]) hS.out ?_
      apply Exists.intro
      refine And.intro (fun w' hS' => ?_) ?_
      · go_wp2
        exact ⟨trivial, rfl⟩
      refine pl_take (i := 3) 32 rfl rfl rfl (by kernel_rfl) (by kernel_rfl) (by kernel_rfl) (by simp [Act.put]) hS.out ?_
      apply Exists.intro
      refine And.intro (fun w' hS' => ?_) ?_
      · go_wp2
        exact ⟨trivial, rfl⟩
      refine pl_take (i := 4) 33 rfl rfl rfl (by kernel_rfl) (by kernel_rfl) (by kernel_rfl) (by simp [Act.put]) hS.out ?_
      apply Exists.intro
      refine And.intro (fun w' hS' => ?_) ?_
      · go_wp2
        exact ⟨trivial, rfl⟩
      refine pl_take (i := 5) 34 rfl rfl rfl (by kernel_rfl) (by kernel_rfl) (by kernel_rfl) (by simp [Act.put]) hS.out ?_
      apply Exists.intro
      refine And.intro (fun w' hS' => ?_) ?_
      · go_wp2
        exact ⟨trivial, rfl⟩
      refine pl_take (i := 6) 35 rfl rfl rfl (by kernel_rfl) (by kernel_rfl) (by kernel_rfl) (by simp [Act.put]) hS.out ?_
      apply Exists.intro
      refine And.intro (fun w' hS' => ?_) ?_
      · refine wpList_unguard' rfl ?_
        clear hS'
        go_wp2
        exact ⟨trivial, rfl⟩
      refine pl_take (i := 7) 36 rfl rfl rfl (by kernel_rfl) (by kernel_rfl) (by kernel_rfl) (by simp [Act.put]) hS.out ?_
      apply Exists.intro
      refine And.intro (fun w' hS' => ?_) ?_
      · refine wpList_unguard' rfl ?_
        have hc := hS'.2.1.cell 0 _ rfl
        clear hS'
        go_wp2
        exact ⟨trivial, rfl⟩
      refine pl_take (i := 8) 37 rfl rfl rfl (by kernel_rfl) (by kernel_rfl) (by kernel_rfl) (by simp [Act.put]) hS.out ?_
      apply Exists.intro
      refine And.intro (fun w' hS' => ?_) ?_
      · refine wpList_unguard' rfl ?_
        clear hS'
        go_wp2
        exact ⟨trivial, rfl⟩
      try rw [Q1.out]
      refine pl_take (i := 9) 38 rfl rfl rfl (by kernel_rfl) (by kernel_rfl) (by kernel_rfl) (by simp [Act.put]) hS.out ?_
      apply Exists.intro
      refine And.intro (fun w' hS' => ?_) ?_
      · go_wp2
        exact ⟨trivial, rfl⟩
      refine pl_take (i := 10) 39 rfl rfl rfl (by kernel_rfl) (by kernel_rfl) (by kernel_rfl) (by simp [Act.put]) hS.out ?_
      apply Exists.intro
      refine And.intro (fun w' hS' => ?_) ?_
      · go_wp2
        exact ⟨trivial, rfl⟩
      refine pl_take (i := 11) 40 rfl rfl rfl (by kernel_rfl) (by kernel_rfl) (by kernel_rfl) (by simp [Act.put]) hS.out ?_
      apply Exists.intro
      refine And.intro (fun w' hS' => ?_) ?_
      · refine wpList_unguard' rfl ?_
        clear hS'
        go_wp2
        exact ⟨trivial, rfl⟩
      refine pl_take (i := 12) 41 rfl rfl rfl (by kernel_rfl) (by kernel_rfl) (by kernel_rfl) (by simp [Act.put]) hS.out ?_
      apply Exists.intro
      refine And.intro (fun w' hS' => ?_) ?_
      · refine wpList_unguard' rfl ?_
        have hc := hS'.2.1.cell 0 _ rfl
        clear hS'
        go_wp2
        exact ⟨trivial, rfl⟩
      refine pl_take (i := 13) 42 rfl rfl rfl (by kernel_rfl) (by kernel_rfl) (by kernel_rfl) (by simp [Act.put]) hS.out ?_
      apply Exists.intro
      refine And.intro (fun w' hS' => ?_) ?_
      · refine wpList_unguard' rfl ?_
        clear hS'
        go_wp2
        exact ⟨trivial, rfl⟩
      refine pl_take (i := 14) 43 rfl rfl rfl (by kernel_rfl) (by kernel_rfl) (by kernel_rfl) (by simp [Act.put]) hS.out ?_
      apply Exists.intro
      refine And.intro (fun w' hS' => ?_) ?_
      · refine wpList_unguard' rfl ?_
        clear hS'
        go_wp2
        exact ⟨trivial, rfl⟩
      refine pl_take (i := 15) 44 rfl rfl rfl (by kernel_rfl) (by kernel_rfl) (by kernel_rfl) (by simp [Act.put]) hS.out ?_
      apply Exists.intro
      refine And.intro (fun w' hS' => ?_) ?_
      · refine wpList_unguard' rfl ?_
        clear hS'
        go_wp2
        exact ⟨trivial, rfl⟩
      try rw [Q2.out]
      refine pl_take (i := 16) 45 rfl rfl rfl (by kernel_rfl) (by kernel_rfl) (by kernel_rfl) (by simp [Act.put]) hS.out ?_
      apply Exists.intro
      refine And.intro (fun w' hS' => ?_) ?_
      · go_wp2
        exact ⟨trivial, rfl⟩
      refine pl_take (i := 17) 46 rfl rfl rfl (by kernel_rfl) (by kernel_rfl) (by kernel_rfl) (by simp [Act.put]) hS.out ?_
      apply Exists.intro
      refine And.intro (fun w' hS' => ?_) ?_
      · go_wp2
        exact ⟨trivial, rfl⟩
      refine pl_take (i := 18) 47 rfl rfl rfl (by kernel_rfl) (by kernel_rfl) (by kernel_rfl) (by simp [Act.put]) hS.out ?_
      apply Exists.intro
      refine And.intro (fun w' hS' => ?_) ?_
      · refine wpList_unguard' rfl ?_
        clear hS'
        go_wp2
        exact ⟨trivial, rfl⟩
      refine pl_take (i := 19) 48 rfl rfl rfl (by kernel_rfl) (by kernel_rfl) (by kernel_rfl) (by simp [Act.put]) hS.out ?_
      apply Exists.intro
      refine And.intro (fun w' hS' => ?_) ?_
      · refine wpList_unguard' rfl ?_
        clear hS'
        go_wp2
        exact ⟨trivial, rfl⟩
      refine pl_take (i := 20) 49 rfl rfl rfl (by kernel_rfl) (by kernel_rfl) (by kernel_rfl) (by simp [Act.put]) hS.out ?_
      apply Exists.intro
      refine And.intro (fun w' hS' => ?_) ?_
      · refine wpList_unguard' rfl ?_
        have hc := hS'.2.1.cell 0 _ rfl
        clear hS'
        go_wp2
        exact ⟨trivial, rfl⟩
      refine pl_takeM (i := 21) 50 rfl rfl rfl (by kernel_rfl) (by kernel_rfl) (by kernel_rfl) (by simp [Act.put]) hS.out ?_
      apply Exists.intro
      refine And.intro (fun w' hS' => ?_) ?_
      · refine wpList_unguard' rfl ?_
        clear hS'
        go_wp2
        exact ⟨trivial, rfl⟩
      refine pl_take (i := 22) 51 rfl rfl rfl (by kernel_rfl) (by kernel_rfl) (by kernel_rfl) (by simp [Act.put]) hS.out ?_
      apply Exists.intro
      refine And.intro (fun w' hS' => ?_) ?_
      · refine wpList_unguard' rfl ?_
        clear hS'
        go_wp2
        exact ⟨trivial, rfl⟩
      refine pl_take (i := 23) 52 rfl rfl rfl (by kernel_rfl) (by kernel_rfl) (by kernel_rfl) (by simp [Act.put]) hS.out ?_
      apply Exists.intro
      refine And.intro (fun w' hS' => ?_) ?_
      · refine wpList_unguard' rfl ?_
        clear hS'
        go_wp2
        exact ⟨trivial, rfl⟩
      refine pl_take (i := 24) 53 rfl rfl rfl (by kernel_rfl) (by kernel_rfl) (by kernel_rfl) (by simp [Act.put]) hS.out ?_
      apply Exists.intro
      refine And.intro (fun w' hS' => ?_) ?_
      · refine wpList_unguard' rfl ?_
        clear hS'
        go_wp2
        exact ⟨trivial, rfl⟩
      refine pl_takeM (i := 25) 54 rfl rfl rfl (by kernel_rfl) (by kernel_rfl) (by kernel_rfl) (by simp [Act.put]) hS.out ?_
      apply Exists.intro
      refine And.intro (fun w' hS' => ?_) ?_
      · refine wpList_unguard' rfl ?_
        clear hS'
        go_wp2
        exact ⟨trivial, rfl⟩
      refine pl_takeM (i := 26) 55 rfl rfl rfl (by kernel_rfl) (by kernel_rfl) (by kernel_rfl) (by simp [Act.put]) hS.out ?_
      apply Exists.intro
      refine And.intro (fun w' hS' => ?_) ?_
      · refine wpList_unguard' rfl ?_
        clear hS'
        go_wp2
        exact ⟨trivial, rfl⟩
      refine pl_take (i := 27) 56 rfl rfl rfl (by kernel_rfl) (by kernel_rfl) (by kernel_rfl) (by simp [Act.put]) hS.out ?_
      apply Exists.intro
      refine And.intro (fun w' hS' => ?_) ?_
      · refine wpList_unguard' rfl ?_
        clear hS'
        go_wp2
        exact ⟨trivial, rfl⟩
      refine pl_take (i := 28) 57 rfl rfl rfl (by kernel_rfl) (by kernel_rfl) (by kernel_rfl) (by simp [Act.put]) hS.out ?_
      apply Exists.intro
      refine And.intro (fun w' hS' => ?_) ?_
      · refine wpList_unguard' rfl ?_
        refine wpList_load_agg rfl 24 (.tmp 56) rfl (ad1.add (p * 32)) rfl (bvs y) _ (hS'.2.2.elem' HY.out.1) Try.underlying24 rfl (by rw [bvs_length, HY.out.2]; exact infoHash) ?_
        clear hS'
        go_wp2
        exact ⟨trivial, rfl⟩
      refine pl_take (i := 29) 58 rfl rfl rfl (by kernel_rfl) (by kernel_rfl) (by kernel_rfl) (by simp [Act.put]) hS.out ?_
      apply Exists.intro
      refine And.intro (fun w' hS' => ?_) ?_
      · refine wpList_unguard' rfl ?_
        refine wpList_load_agg rfl 24 (.tmp 4) rfl (⟨w.heap.size, 0, none⟩) rfl (bvs x) _ ((At.block hS'.1).load) Try.underlying24 rfl (by rw [bvs_length, HX.out.1]; exact infoHash) ?_
        clear hS'
        go_wp2
        exact ⟨trivial, rfl⟩
      refine pl_take (i := 30) 59 rfl rfl rfl (by kernel_rfl) (by kernel_rfl) (by kernel_rfl) (by simp [Act.put]) hS.out ?_
      apply Exists.intro
      refine And.intro (fun w' hS' => ?_) ?_
      · refine wpList_unguard' rfl ?_
        refine wpList_bin rfl .eql 24 24 (.tmp 57) (.tmp 58) rfl (.bool false) (eqGuard_agg _ _ _ _ _ _ _ (by kernel_rfl)) ((hash_eq w' y x HY.out.2 HX.out.1).trans (by rw [HYX.out])) ?_
        clear hS'
        go_wp2
        exact ⟨trivial, rfl⟩
      refine pl_take (i := 31) 60 rfl rfl rfl (by kernel_rfl) (by kernel_rfl) (by kernel_rfl) (by simp [Act.put]) hS.out ?_
      apply Exists.intro
      refine And.intro (fun w' hS' => ?_) ?_
      · go_wp2
        exact ⟨trivial, rfl⟩
      refine pl_take (i := 32) 10 rfl rfl rfl (by kernel_rfl) (by kernel_rfl) (by kernel_rfl) (by simp [Act.put]) hS.out ?_
      apply Exists.intro
      refine And.intro (fun w' hS' => ?_) ?_
      · go_wp2
        exact ⟨trivial, rfl⟩
      refine pl_done (by kernel_rfl) ?_
      go_wp2_with fail
      have bd4 : Below w4.heap.size w4 w4.drew := (Below.refl _ w4).drew
      replace TT := Lib.hid (TT.out.fresh bd4)
      replace hS := Lib.hid (And.intro (hS.out.1.fresh bd4) (And.intro (hS.out.2.1.fresh bd4) (hS.out.2.2.fresh bd4)))
      replace BB := Lib.hid BB.out.drew
      clear bd4
      refine pl_start 9 rfl (fun w' => CB w' 24 w.heap.size (bvs x) ∧ CB w' 92 (w.heap.size + 1) [.int .i64 (p : Int), .int .i64 c, .slice a0 N c0] ∧ Hs w' (.slice (some ad1) M c1) l) (by kernel_rfl) ?_
      obtain ⟨w5, hw5⟩ : ∃ w5, w5 = w4.drew := ⟨_, rfl⟩
      rw [← hw5] at hS BB TT ⊢
      clear hw5
      refine pl_take (i := 0) 61 rfl rfl rfl (by kernel_rfl) (by kernel_rfl) (by kernel_rfl) (by simp [Act.put]) hS.out ?_
      apply Exists.intro
      refine And.intro (fun w' hS' => ?_) ?_
      · go_wp2
        exact ⟨trivial, rfl⟩
      refine pl_take (i := 2) 63 rfl rfl rfl (by kernel_rfl) (by kernel_rfl) (by kernel_rfl) (by simp [Act.put]) hS.out ?_
      apply Exists.intro
      refine And.intro (fun w' hS' => ?_) ?_
      · refine wpList_load_agg rfl 24 (.tmp 4) rfl (⟨w.heap.size, 0, none⟩) rfl (bvs x) _ ((At.block hS'.1).load) Try.underlying24 rfl (by rw [bvs_length, HX.out.1]; exact infoHash) ?_
        clear hS'
        go_wp2
        exact ⟨trivial, rfl⟩
      refine pl_take (i := 3) 64 rfl rfl rfl (by kernel_rfl) (by kernel_rfl) (by kernel_rfl) (by simp [Act.put]) hS.out ?_
      apply Exists.intro
      refine And.intro (fun w' hS' => ?_) ?_
      · refine wpList_load_agg rfl 92 (.tmp 5) rfl ⟨w.heap.size + 1, 0, none⟩ rfl [.int .i64 (p : Int), .int .i64 c, .slice a0 N c0] _ (At.block hS'.2.1).load Try.underlying92 rfl (by exact infoPath) ?_
        clear hS'
        go_wp2
        exact ⟨trivial, rfl⟩
      refine pl_heavy (i := 1) rfl (by kernel_rfl) ?_
      go_wp2_with fail
      refine (CR.out w5 hS.out.2.2).mono ?_
      rintro e w6 ⟨rfl, b6⟩
      replace hS := Lib.hid (And.intro (hS.out.1.fresh b6) (And.intro (hS.out.2.1.fresh b6) (hS.out.2.2.fresh b6)))
      replace BB := Lib.hid (BB.out.tr b6)
      replace TT := Lib.hid (TT.out.fresh b6)
      clear b6
      go_wp2
      refine And.intro hS.out ?_
      refine pl_heavy (i := 4) rfl (by kernel_rfl) ?_
      go_wp2_with fail
      refine (CC.out w6 (H.out.fresh BB.out)).mono ?_
      rintro e w7 ⟨rfl, b7⟩
      replace hS := Lib.hid (And.intro (hS.out.1.fresh b7) (And.intro (hS.out.2.1.fresh b7) (hS.out.2.2.fresh b7)))
      replace BB := Lib.hid (BB.out.tr b7)
      replace TT := Lib.hid (TT.out.fresh b7)
      clear b7
      go_wp2
      refine And.intro hS.out ?_
      refine pl_take (i := 5) 66 rfl rfl rfl (by kernel_rfl) (by kernel_rfl) (by kernel_rfl) (by simp [Act.put]) hS.out ?_
      apply Exists.intro
      refine And.intro (fun w' hS' => ?_) ?_
      · go_wp2
        exact ⟨trivial, rfl⟩
      refine pl_take (i := 6) 67 rfl rfl rfl (by kernel_rfl) (by kernel_rfl) (by kernel_rfl) (by simp [Act.put]) hS.out ?_
      apply Exists.intro
      refine And.intro (fun w' hS' => ?_) ?_
      · go_wp2
        exact ⟨trivial, rfl⟩
      refine pl_take (i := 7) 68 rfl rfl rfl (by kernel_rfl) (by kernel_rfl) (by kernel_rfl) (by simp [Act.put]) hS.out ?_
      apply Exists.intro
      refine And.intro (fun w' hS' => ?_) ?_
      · refine wpList_unguard' rfl ?_
        clear hS'
        go_wp2
        exact ⟨trivial, rfl⟩
      refine pl_take (i := 8) 69 rfl rfl rfl (by kernel_rfl) (by kernel_rfl) (by kernel_rfl) (by simp [Act.put]) hS.out ?_
      apply Exists.intro
      refine And.intro (fun w' hS' => ?_) ?_
      · go_wp2
        exact ⟨trivial, rfl⟩
      obtain ⟨ta, tb, hle, ra, rb, hne, hsh⟩ : ∃ ta tb : Bs, (ta.length ≤ 100 ∧ tb.length ≤ 100) ∧ Rd w7 1 va ta.length (bvs ta) ∧ Rd w7 1 vb tb.length (bvs tb) ∧ ta ≠ tb ∧ shaB ta = shaB tb := by
        rcases TT.out with ⟨h1, _⟩ | ⟨_, h2⟩
        · cases h1
        · exact h2
      obtain ⟨aa, ca, rfl⟩ := ra.slice
      obtain ⟨ab, cb, rfl⟩ := rb.slice
      have va := ra.conv (P := Try.prog) 42 9 5 Try.underlying42 Try.underlying5 Try.underlying9
      have vb := rb.conv (P := Try.prog) 42 9 5 Try.underlying42 Try.underlying5 Try.underlying9
      have hq : (ta != tb) = true := by simpa using hne
      have RA := Lib.hid ra
      have RB := Lib.hid rb
      have LE := Lib.hid (And.intro hle hsh)
      clear ra rb hne hle hsh TT
      refine pl_done (by kernel_rfl) ?_
      go_wp2_with (with_reducible refine stopAt 91 ?_)
      refine Stop.go ?_
      refine wpList_unguard' rfl ?_
      refine wpList_bin rfl .neq 9 9 (.tmp 88) (.tmp 90) rfl (.bool (ta != tb)) (str_guard _ _ _ _ _ _) (str_neq w7 ta tb) ?_
      rw [hq]
      clear hq va vb
      go_wp2_with fail
      refine (rsum_any w7 _ ta RA.out (by have := LE.out.1.1; omega)).mono ?_
      rintro e w8 ⟨rfl, b8⟩
      replace RB := Lib.hid (RB.out.fresh b8)
      replace BB := Lib.hid (BB.out.tr b8)
      clear b8
      go_wp2_with fail
      refine (rsum_any w8 _ tb RB.out (by have := LE.out.1.2; omega)).mono ?_
      rintro e w9 ⟨rfl, b9⟩
      replace BB := Lib.hid (BB.out.tr b9)
      rw [LE.out.2]
      clear b9
      go_wp2_with (with_reducible refine stopAt 98 ?_)
      refine Stop.go ?_
      refine wpList_unguard' rfl ?_
      refine wpList_bin rfl .eql 24 24 (.tmp 95) (.tmp 97) rfl (.bool true) (eqGuard_agg _ _ _ _ _ _ _ (by kernel_rfl)) (hash_eq_refl _ _ (shaB_length _)) ?_
      go_wp2_with fail
      refine (yknown_any _).mono ?_
      rintro e w10 ⟨rfl, b10⟩
      replace BB := Lib.hid (BB.out.tr b10)
      clear b10
      go_wp2
      go_ret
      exact ⟨rfl, BB.out⟩
    · subst h0
      have hT0 : T = false := by rw [HX.out.2.1]; rfl
      subst hT0
      go_enter Try.func10, Try.ntmps10
      go_wp2_with (with_reducible refine stopAt 13 ?_)
      refine Stop.go ?_
      obtain ⟨w1, h1, k1, b1, s1⟩ := alloc_cb w 24 (bvs x)
      obtain ⟨w2, h2, k2, b2, s2⟩ := alloc_cb w1 92 [.int .i64 (p : Int), .int .i64 c, .slice a0 N c0]
      change wpList _ _ _ _ _ ((w.alloc (.cells (bvs x).toArray 24)).alloc (.cells [.int .i64 (p : Int), .int .i64 c, .slice a0 N c0].toArray 92))
      rw [← h1, ← h2]
      rw [s1] at s2 k2
      have hc2 := k2.cell 2 _ rfl
      have BB := Lib.hid (b1.tr b2)
      have SS := Lib.hid (And.intro (k1.fresh b2) k2)
      clear h1 h2 k1 k2 b1 b2 s1 s2
      go_wp2_with (with_reducible refine stopAt 22 ?_)
      refine Stop.go ?_
      clear hc2
      refine wpList_load_agg rfl 24 (.tmp 4) rfl (⟨w.heap.size, 0, none⟩) rfl (bvs x) _ ((At.block SS.out.1).load) Try.underlying24 rfl (by rw [bvs_length, HX.out.1]; exact infoHash) ?_
      go_wp2_with (with_reducible refine stopAt 23 ?_)
      refine Stop.go ?_
      refine wpList_load_agg rfl 92 (.tmp 5) rfl ⟨w.heap.size + 1, 0, none⟩ rfl [.int .i64 (p : Int), .int .i64 c, .slice a0 N c0] _ (At.block SS.out.2).load Try.underlying92 rfl (by exact infoPath) ?_
      go_wp2_with fail
      refine (CO.out _ (H.out.fresh BB.out) (HI.out.fresh BB.out)).mono ?_
      rintro e w3 ⟨va, vb, rfl, ht, b3⟩
      replace SS := Lib.hid (And.intro (SS.out.1.fresh b3.drew) (SS.out.2.fresh b3.drew))
      replace BB := Lib.hid (BB.out.tr b3).drew
      have TT := Lib.hid (ht.fresh (show Below w3.heap.size w3 w3.drew from (Below.refl _ w3).drew))
      have hS := Lib.hid (And.intro SS.out.1 (And.intro SS.out.2 (HI.out.fresh BB.out)))
      clear b3 ht SS
      go_wp2_with fail
      refine pl_start 33 rfl (fun w' => CB w' 24 w.heap.size (bvs x) ∧ CB w' 92 (w.heap.size + 1) [.int .i64 (p : Int), .int .i64 c, .slice a0 N c0] ∧ Hs w' (.slice (some ad1) M c1) l) (by kernel_rfl) ?_
      obtain ⟨w4, hw4⟩ : ∃ w4, w4 = w3.drew := ⟨_, rfl⟩
      rw [← hw4] at hS BB TT ⊢
      clear hw4
      refine pl_take (i := 0) 29 rfl rfl rfl (by kernel_rfl) (by kernel_rfl) (by kernel_rfl) (by simp [Act.put]) hS.out ?_
      apply Exists.intro
      refine And.intro (fun w' hS' => ?_) ?_
      · go_wp2
        exact ⟨trivial, rfl⟩
      refine pl_take (i := 1) 30 rfl rfl rfl (by kernel_rfl) (by kernel_rfl) (by kernel_rfl) (by simp [Act.put]) hS.out ?_
      apply Exists.intro
      refine And.intro (fun w' hS' => ?_) ?_
      · have hc := hS'.2.1.cell 1 _ rfl
        clear hS'
        go_wp2
        exact ⟨trivial, rfl⟩
      refine pl_take (i := 2) 31 rfl rfl rfl (by kernel_rfl) (by kernel_rfl) (by kernel_rfl) (by simp [Act.put]) hS.out ?_
      apply Exists.intro
      refine And.intro (fun w' hS' => ?_) ?_
      · go_wp2
        exact ⟨trivial, rfl⟩
      refine pl_take (i := 3) 32 rfl rfl rfl (by kernel_rfl) (by kernel_rfl) (by kernel_rfl) (by simp [Act.put]) hS.out ?_
      apply Exists.intro
      refine And.intro (fun w' hS' => ?_) ?_
      · go_wp2
        exact ⟨trivial, rfl⟩
      refine pl_take (i := 4) 33 rfl rfl rfl (by kernel_rfl) (by kernel_rfl) (by kernel_rfl) (by simp [Act.put]) hS.out ?_
      apply Exists.intro
      refine And.intro (fun w' hS' => ?_) ?_
      · go_wp2
        exact ⟨trivial, rfl⟩
      refine pl_take (i := 5) 34 rfl rfl rfl (by kernel_rfl) (by kernel_rfl) (by kernel_rfl) (by simp [Act.put]) hS.out ?_
      apply Exists.intro
      refine And.intro (fun w' hS' => ?_) ?_
      · go_wp2
        exact ⟨trivial, rfl⟩
      refine pl_take (i := 6) 35 rfl rfl rfl (by kernel_rfl) (by kernel_rfl) (by kernel_rfl) (by simp [Act.put]) hS.out ?_
      apply Exists.intro
      refine And.intro (fun w' hS' => ?_) ?_
      · refine wpList_unguard' rfl ?_
        clear hS'
        go_wp2
        exact ⟨trivial, rfl⟩
      refine pl_take (i := 7) 36 rfl rfl rfl (by kernel_rfl) (by kernel_rfl) (by kernel_rfl) (by simp [Act.put]) hS.out ?_
      apply Exists.intro
      refine And.intro (fun w' hS' => ?_) ?_
      · refine wpList_unguard' rfl ?_
        have hc := hS'.2.1.cell 0 _ rfl
        clear hS'
        go_wp2
        exact ⟨trivial, rfl⟩
      refine pl_take (i := 8) 37 rfl rfl rfl (by kernel_rfl) (by kernel_rfl) (by kernel_rfl) (by simp [Act.put]) hS.out ?_
      apply Exists.intro
      refine And.intro (fun w' hS' => ?_) ?_
      · refine wpList_unguard' rfl ?_
        clear hS'
        go_wp2
        exact ⟨trivial, rfl⟩
      try rw [Q1.out]
      refine pl_take (i := 9) 38 rfl rfl rfl (by kernel_rfl) (by kernel_rfl) (by kernel_rfl) (by simp [Act.put]) hS.out ?_
      apply Exists.intro
      refine And.intro (fun w' hS' => ?_) ?_
      · go_wp2
        exact ⟨trivial, rfl⟩
      refine pl_take (i := 10) 39 rfl rfl rfl (by kernel_rfl) (by kernel_rfl) (by kernel_rfl) (by simp [Act.put]) hS.out ?_
      apply Exists.intro
      refine And.intro (fun w' hS' => ?_) ?_
      · go_wp2
        exact ⟨trivial, rfl⟩
      refine pl_take (i := 11) 40 rfl rfl rfl (by kernel_rfl) (by kernel_rfl) (by kernel_rfl) (by simp [Act.put]) hS.out ?_
      apply Exists.intro
      refine And.intro (fun w' hS' => ?_) ?_
      · refine wpList_unguard' rfl ?_
        clear hS'
        go_wp2
        exact ⟨trivial, rfl⟩
      refine pl_take (i := 12) 41 rfl rfl rfl (by kernel_rfl) (by kernel_rfl) (by kernel_rfl) (by simp [Act.put]) hS.out ?_
      apply Exists.intro
      refine And.intro (fun w' hS' => ?_) ?_
      · refine wpList_unguard' rfl ?_
        have hc := hS'.2.1.cell 0 _ rfl
        clear hS'
        go_wp2
        exact ⟨trivial, rfl⟩
      refine pl_take (i := 13) 42 rfl rfl rfl (by kernel_rfl) (by kernel_rfl) (by kernel_rfl) (by simp [Act.put]) hS.out ?_
      apply Exists.intro
      refine And.intro (fun w' hS' => ?_) ?_
      · refine wpList_unguard' rfl ?_
        clear hS'
        go_wp2
        exact ⟨trivial, rfl⟩
      refine pl_take (i := 14) 43 rfl rfl rfl (by kernel_rfl) (by kernel_rfl) (by kernel_rfl) (by simp [Act.put]) hS.out ?_
      apply Exists.intro
      refine And.intro (fun w' hS' => ?_) ?_
      · refine wpList_unguard' rfl ?_
        clear hS'
        go_wp2
        exact ⟨trivial, rfl⟩
      refine pl_take (i := 15) 44 rfl rfl rfl (by kernel_rfl) (by kernel_rfl) (by kernel_rfl) (by simp [Act.put]) hS.out ?_
      apply Exists.intro
      refine And.intro (fun w' hS' => ?_) ?_
      · refine wpList_unguard' rfl ?_
        clear hS'
        go_wp2
        exact ⟨trivial, rfl⟩
      try rw [Q2.out]
      refine pl_take (i := 16) 45 rfl rfl rfl (by kernel_rfl) (by kernel_rfl) (by kernel_rfl) (by simp [Act.put]) hS.out ?_
      apply Exists.intro
      refine And.intro (fun w' hS' => ?_) ?_
      · go_wp2
        exact ⟨trivial, rfl⟩
      refine pl_take (i := 17) 46 rfl rfl rfl (by kernel_rfl) (by kernel_rfl) (by kernel_rfl) (by simp [Act.put]) hS.out ?_
      apply Exists.intro
      refine And.intro (fun w' hS' => ?_) ?_
      · go_wp2
        exact ⟨trivial, rfl⟩
      refine pl_take (i := 18) 47 rfl rfl rfl (by kernel_rfl) (by kernel_rfl) (by kernel_rfl) (by simp [Act.put]) hS.out ?_
      apply Exists.intro
      refine And.intro (fun w' hS' => ?_) ?_
      · refine wpList_unguard' rfl ?_
        clear hS'
        go_wp2
        exact ⟨trivial, rfl⟩
      refine pl_take (i := 19) 48 rfl rfl rfl (by kernel_rfl) (by kernel_rfl) (by kernel_rfl) (by simp [Act.put]) hS.out ?_
      apply Exists.intro
      refine And.intro (fun w' hS' => ?_) ?_
      · refine wpList_unguard' rfl ?_
        clear hS'
        go_wp2
        exact ⟨trivial, rfl⟩
      refine pl_take (i := 20) 49 rfl rfl rfl (by kernel_rfl) (by kernel_rfl) (by kernel_rfl) (by simp [Act.put]) hS.out ?_
      apply Exists.intro
      refine And.intro (fun w' hS' => ?_) ?_
      · refine wpList_unguard' rfl ?_
        have hc := hS'.2.1.cell 0 _ rfl
        clear hS'
        go_wp2
        exact ⟨trivial, rfl⟩
      refine pl_takeM (i := 21) 50 rfl rfl rfl (by kernel_rfl) (by kernel_rfl) (by kernel_rfl) (by simp [Act.put]) hS.out ?_
      apply Exists.intro
      refine And.intro (fun w' hS' => ?_) ?_
      · refine wpList_unguard' rfl ?_
        clear hS'
        go_wp2
        exact ⟨trivial, rfl⟩
      refine pl_take (i := 22) 51 rfl rfl rfl (by kernel_rfl) (by kernel_rfl) (by kernel_rfl) (by simp [Act.put]) hS.out ?_
      apply Exists.intro
      refine And.intro (fun w' hS' => ?_) ?_
      · refine wpList_unguard' rfl ?_
        clear hS'
        go_wp2
        exact ⟨trivial, rfl⟩
      refine pl_take (i := 23) 52 rfl rfl rfl (by kernel_rfl) (by kernel_rfl) (by kernel_rfl) (by simp [Act.put]) hS.out ?_
      apply Exists.intro
      refine And.intro (fun w' hS' => ?_) ?_
      · refine wpList_unguard' rfl ?_
        clear hS'
        go_wp2
        exact ⟨trivial, rfl⟩
      refine pl_take (i := 24) 53 rfl rfl rfl (by kernel_rfl) (by kernel_rfl) (by kernel_rfl) (by simp [Act.put]) hS.out ?_
      apply Exists.intro
      refine And.intro (fun w' hS' => ?_) ?_
      · refine wpList_unguard' rfl ?_
        clear hS'
        go_wp2
        exact ⟨trivial, rfl⟩
      refine pl_takeM (i := 25) 54 rfl rfl rfl (by kernel_rfl) (by kernel_rfl) (by kernel_rfl) (by simp [Act.put]) hS.out ?_
      apply Exists.intro
      refine And.intro (fun w' hS' => ?_) ?_
      · refine wpList_unguard' rfl ?_
        clear hS'
        go_wp2
        exact ⟨trivial, rfl⟩
      refine pl_takeM (i := 26) 55 rfl rfl rfl (by kernel_rfl) (by kernel_rfl) (by kernel_rfl) (by simp [Act.put]) hS.out ?_
      apply Exists.intro
      refine And.intro (fun w' hS' => ?_) ?_
      · refine wpList_unguard' rfl ?_
        clear hS'
        go_wp2
        exact ⟨trivial, rfl⟩
      refine pl_take (i := 27) 56 rfl rfl rfl (by kernel_rfl) (by kernel_rfl) (by kernel_rfl) (by simp [Act.put]) hS.out ?_
      apply Exists.intro
      refine And.intro (fun w' hS' => ?_) ?_
      · refine wpList_unguard' rfl ?_
        clear hS'
        go_wp2
        exact ⟨trivial, rfl⟩
      refine pl_take (i := 28) 57 rfl rfl rfl (by kernel_rfl) (by kernel_rfl) (by kernel_rfl) (by simp [Act.put]) hS.out ?_
      apply Exists.intro
      refine And.intro (fun w' hS' => ?_) ?_
      · refine wpList_unguard' rfl ?_
        refine wpList_load_agg rfl 24 (.tmp 56) rfl (ad1.add (p * 32)) rfl (bvs y) _ (hS'.2.2.elem' HY.out.1) Try.underlying24 rfl (by rw [bvs_length, HY.out.2]; exact infoHash) ?_
        clear hS'
        go_wp2
        exact ⟨trivial, rfl⟩
      refine pl_take (i := 29) 58 rfl rfl rfl (by kernel_rfl) (by kernel_rfl) (by kernel_rfl) (by simp [Act.put]) hS.out ?_
      apply Exists.intro
      refine And.intro (fun w' hS' => ?_) ?_
      · refine wpList_unguard' rfl ?_
        refine wpList_load_agg rfl 24 (.tmp 4) rfl (⟨w.heap.size, 0, none⟩) rfl (bvs x) _ ((At.block hS'.1).load) Try.underlying24 rfl (by rw [bvs_length, HX.out.1]; exact infoHash) ?_
        clear hS'
        go_wp2
        exact ⟨trivial, rfl⟩
      refine pl_take (i := 30) 59 rfl rfl rfl (by kernel_rfl) (by kernel_rfl) (by kernel_rfl) (by simp [Act.put]) hS.out ?_
      apply Exists.intro
      refine And.intro (fun w' hS' => ?_) ?_
      · refine wpList_unguard' rfl ?_
        refine wpList_bin rfl .eql 24 24 (.tmp 57) (.tmp 58) rfl (.bool false) (eqGuard_agg _ _ _ _ _ _ _ (by kernel_rfl)) ((hash_eq w' y x HY.out.2 HX.out.1).trans (by rw [HYX.out])) ?_
        clear hS'
        go_wp2
        exact ⟨trivial, rfl⟩
      refine pl_take (i := 31) 60 rfl rfl rfl (by kernel_rfl) (by kernel_rfl) (by kernel_rfl) (by simp [Act.put]) hS.out ?_
      apply Exists.intro
      refine And.intro (fun w' hS' => ?_) ?_
      · go_wp2
        exact ⟨trivial, rfl⟩
      refine pl_take (i := 32) 10 rfl rfl rfl (by kernel_rfl) (by kernel_rfl) (by kernel_rfl) (by simp [Act.put]) hS.out ?_
      apply Exists.intro
      refine And.intro (fun w' hS' => ?_) ?_
      · go_wp2
        exact ⟨trivial, rfl⟩
      refine pl_done (by kernel_rfl) ?_
      go_wp2_with fail
      have bd4 : Below w4.heap.size w4 w4.drew := (Below.refl _ w4).drew
      replace TT := Lib.hid (TT.out.fresh bd4)
      replace hS := Lib.hid (And.intro (hS.out.1.fresh bd4) (And.intro (hS.out.2.1.fresh bd4) (hS.out.2.2.fresh bd4)))
      replace BB := Lib.hid BB.out.drew
      clear bd4
      refine pl_start 9 rfl (fun w' => CB w' 24 w.heap.size (bvs x) ∧ CB w' 92 (w.heap.size + 1) [.int .i64 (p : Int), .int .i64 c, .slice a0 N c0] ∧ Hs w' (.slice (some ad1) M c1) l) (by kernel_rfl) ?_
      obtain ⟨w5, hw5⟩ : ∃ w5, w5 = w4.drew := ⟨_, rfl⟩
      rw [← hw5] at hS BB TT ⊢
      clear hw5
      refine pl_take (i := 0) 61 rfl rfl rfl (by kernel_rfl) (by kernel_rfl) (by kernel_rfl) (by simp [Act.put]) hS.out ?_
      apply Exists.intro
      refine And.intro (fun w' hS' => ?_) ?_
      · go_wp2
        exact ⟨trivial, rfl⟩
      refine pl_take (i := 2) 63 rfl rfl rfl (by kernel_rfl) (by kernel_rfl) (by kernel_rfl) (by simp [Act.put]) hS.out ?_
      apply Exists.intro
      refine And.intro (fun w' hS' => ?_) ?_
      · refine wpList_load_agg rfl 24 (.tmp 4) rfl (⟨w.heap.size, 0, none⟩) rfl (bvs x) _ ((At.block hS'.1).load) Try.underlying24 rfl (by rw [bvs_length, HX.out.1]; exact infoHash) ?_
        clear hS'
        go_wp2
        exact ⟨trivial, rfl⟩
      refine pl_take (i := 3) 64 rfl rfl rfl (by kernel_rfl) (by kernel_rfl) (by kernel_rfl) (by simp [Act.put]) hS.out ?_
      apply Exists.intro
      refine And.intro (fun w' hS' => ?_) ?_
      · refine wpList_load_agg rfl 92 (.tmp 5) rfl ⟨w.heap.size + 1, 0, none⟩ rfl [.int .i64 (p : Int), .int .i64 c, .slice a0 N c0] _ (At.block hS'.2.1).load Try.underlying92 rfl (by exact infoPath) ?_
        clear hS'
        go_wp2
        exact ⟨trivial, rfl⟩
      refine pl_heavy (i := 1) rfl (by kernel_rfl) ?_
      go_wp2_with fail
      refine (CR.out w5 hS.out.2.2).mono ?_
      rintro e w6 ⟨rfl, b6⟩
      replace hS := Lib.hid (And.intro (hS.out.1.fresh b6) (And.intro (hS.out.2.1.fresh b6) (hS.out.2.2.fresh b6)))
      replace BB := Lib.hid (BB.out.tr b6)
      replace TT := Lib.hid (TT.out.fresh b6)
      clear b6
      go_wp2
      refine And.intro hS.out ?_
      refine pl_heavy (i := 4) rfl (by kernel_rfl) ?_
      go_wp2_with fail
      refine (CC.out w6 (H.out.fresh BB.out)).mono ?_
      rintro e w7 ⟨rfl, b7⟩
      replace hS := Lib.hid (And.intro (hS.out.1.fresh b7) (And.intro (hS.out.2.1.fresh b7) (hS.out.2.2.fresh b7)))
      replace BB := Lib.hid (BB.out.tr b7)
      replace TT := Lib.hid (TT.out.fresh b7)
      clear b7
      go_wp2
      refine And.intro hS.out ?_
      refine pl_take (i := 5) 66 rfl rfl rfl (by kernel_rfl) (by kernel_rfl) (by kernel_rfl) (by simp [Act.put]) hS.out ?_
      apply Exists.intro
      refine And.intro (fun w' hS' => ?_) ?_
      · go_wp2
        exact ⟨trivial, rfl⟩
      refine pl_take (i := 6) 67 rfl rfl rfl (by kernel_rfl) (by kernel_rfl) (by kernel_rfl) (by simp [Act.put]) hS.out ?_
      apply Exists.intro
      refine And.intro (fun w' hS' => ?_) ?_
      · go_wp2
        exact ⟨trivial, rfl⟩
      refine pl_skip (i := 7) rfl (by kernel_rfl) (by kernel_rfl) (by kernel_rfl) (by kernel_rfl) hS.out ?_
      apply Exists.intro
      refine And.intro (by simp [Act.put, go_sem]; rfl) ?_
      refine pl_take (i := 8) 69 rfl rfl rfl (by kernel_rfl) (by kernel_rfl) (by kernel_rfl) (by simp [Act.put]) hS.out ?_
      apply Exists.intro
      refine And.intro (fun w' hS' => ?_) ?_
      · go_wp2
        exact ⟨trivial, rfl⟩
      have TN : va = .slice none 0 0 ∧ vb = .slice none 0 0 := by
        rcases TT.out with ⟨_, h1, h2⟩ | ⟨h1, _⟩
        · exact ⟨h1, h2⟩
        · cases h1
      obtain ⟨rfl, rfl⟩ := TN
      refine pl_done (by kernel_rfl) ?_
      go_wp2_with fail
      refine (yknown_any _).mono ?_
      rintro e w9 ⟨rfl, b9⟩
      replace BB := Lib.hid (BB.out.tr b9)
      clear b9
      go_wp2
      go_ret
      exact ⟨rfl, BB.out⟩
  · have HYX : Hid ((y == x) = true) := Lib.hid hyx
    clear hyx
    rcases HX.out.2.2.2.1 with h0 | h0
    · subst h0
      have hT0 : T = false := by rw [HX.out.2.1]; rw [HR0.out, HYX.out]; rfl
      subst hT0
      go_enter Try.func10, Try.ntmps10
      go_wp2_with (with_reducible refine stopAt 13 ?_)
      refine Stop.go ?_
      obtain ⟨w1, h1, k1, b1, s1⟩ := alloc_cb w 24 (bvs x)
      obtain ⟨w2, h2, k2, b2, s2⟩ := alloc_cb w1 92 [.int .i64 (p : Int), .int .i64 c, .slice a0 N c0]
      change wpList _ _ _ _ _ ((w.alloc (.cells (bvs x).toArray 24)).alloc (.cells [.int .i64 (p : Int), .int .i64 c, .slice a0 N c0].toArray 92))
      rw [← h1, ← h2]
      rw [s1] at s2 k2
      have hc2 := k2.cell 2 _ rfl
      have BB := Lib.hid (b1.tr b2)
      have SS := Lib.hid (And.intro (k1.fresh b2) k2)
      clear h1 h2 k1 k2 b1 b2 s1 s2
      go_wp2_with (with_reducible refine stopAt 22 ?_)
      refine Stop.go ?_
      clear hc2
      refine wpList_load_agg rfl 24 (.tmp 4) rfl (⟨w.heap.size, 0, none⟩) rfl (bvs x) _ ((At.block SS.out.1).load) Try.underlying24 rfl (by rw [bvs_length, HX.out.1]; exact infoHash) ?_
      go_wp2_with (with_reducible refine stopAt 23 ?_)
      refine Stop.go ?_
      refine wpList_load_agg rfl 92 (.tmp 5) rfl ⟨w.heap.size + 1, 0, none⟩ rfl [.int .i64 (p : Int), .int .i64 c, .slice a0 N c0] _ (At.block SS.out.2).load Try.underlying92 rfl (by exact infoPath) ?_
      go_wp2_with fail
      refine (CO.out _ (H.out.fresh BB.out) (HI.out.fresh BB.out)).mono ?_
      rintro e w3 ⟨va, vb, rfl, ht, b3⟩
      replace SS := Lib.hid (And.intro (SS.out.1.fresh b3.drew) (SS.out.2.fresh b3.drew))
      replace BB := Lib.hid (BB.out.tr b3).drew
      have TT := Lib.hid (ht.fresh (show Below w3.heap.size w3 w3.drew from (Below.refl _ w3).drew))
      have hS := Lib.hid (And.intro SS.out.1 (And.intro SS.out.2 (HI.out.fresh BB.out)))
      clear b3 ht SS
      go_wp2_with fail
      refine pl_start 33 rfl (fun w' => CB w' 24 w.heap.size (bvs x) ∧ CB w' 92 (w.heap.size + 1) [.int .i64 (p : Int), .int .i64 c, .slice a0 N c0] ∧ Hs w' (.slice (some ad1) M c1) l) (by kernel_rfl) ?_
      obtain ⟨w4, hw4⟩ : ∃ w4, w4 = w3.drew := ⟨_, rfl⟩
      rw [← hw4] at hS BB TT ⊢
      clear hw4
      refine pl_take (i := 0) 29 rfl rfl rfl (by kernel_rfl) (by kernel_rfl) (by kernel_rfl) (by simp [Act.put]) hS.out ?_
      apply Exists.intro
      refine And.intro (fun w' hS' => ?_) ?_
      · go_wp2
        exact ⟨trivial, rfl⟩
      refine pl_take (i := 1) 30 rfl rfl rfl (by kernel_rfl) (by kernel_rfl) (by kernel_rfl) (by simp [Act.put]) hS.out ?_
      apply Exists.intro
      refine And.intro (fun w' hS' => ?_) ?_
      · have hc := hS'.2.1.cell 1 _ rfl
        clear hS'
        go_wp2
        exact ⟨trivial, rfl⟩
      refine pl_take (i := 2) 31 rfl rfl rfl (by kernel_rfl) (by kernel_rfl) (by kernel_rfl) (by simp [Act.put]) hS.out ?_
      apply Exists.intro
      refine And.intro (fun w' hS' => ?_) ?_
      · go_wp2
        exact ⟨trivial, rfl⟩
      refine pl_take (i := 3) 32 rfl rfl rfl (by kernel_rfl) (by kernel_rfl) (by kernel_rfl) (by simp [Act.put]) hS.out ?_
      apply Exists.intro
      refine And.intro (fun w' hS' => ?_) ?_
      · go_wp2
        exact ⟨trivial, rfl⟩
      refine pl_take (i := 4) 33 rfl rfl rfl (by kernel_rfl) (by kernel_rfl) (by kernel_rfl) (by simp [Act.put]) hS.out ?_
      apply Exists.intro
      refine And.intro (fun w' hS' => ?_) ?_
      · go_wp2
        exact ⟨trivial, rfl⟩
      refine pl_take (i := 5) 34 rfl rfl rfl (by kernel_rfl) (by kernel_rfl) (by kernel_rfl) (by simp [Act.put]) hS.out ?_
      apply Exists.intro
      refine And.intro (fun w' hS' => ?_) ?_
      · go_wp2
        exact ⟨trivial, rfl⟩
      refine pl_take (i := 6) 35 rfl rfl rfl (by kernel_rfl) (by kernel_rfl) (by kernel_rfl) (by simp [Act.put]) hS.out ?_
      apply Exists.intro
      refine And.intro (fun w' hS' => ?_) ?_
      · refine wpList_unguard' rfl ?_
        clear hS'
        go_wp2
        exact ⟨trivial, rfl⟩
      refine pl_take (i := 7) 36 rfl rfl rfl (by kernel_rfl) (by kernel_rfl) (by kernel_rfl) (by simp [Act.put]) hS.out ?_
      apply Exists.intro
      refine And.intro (fun w' hS' => ?_) ?_
      · refine wpList_unguard' rfl ?_
        have hc := hS'.2.1.cell 0 _ rfl
        clear hS'
        go_wp2
        exact ⟨trivial, rfl⟩
      refine pl_take (i := 8) 37 rfl rfl rfl (by kernel_rfl) (by kernel_rfl) (by kernel_rfl) (by simp [Act.put]) hS.out ?_
      apply Exists.intro
      refine And.intro (fun w' hS' => ?_) ?_
      · refine wpList_unguard' rfl ?_
        clear hS'
        go_wp2
        exact ⟨trivial, rfl⟩
      try rw [Q1.out]
      refine pl_take (i := 9) 38 rfl rfl rfl (by kernel_rfl) (by kernel_rfl) (by kernel_rfl) (by simp [Act.put]) hS.out ?_
      apply Exists.intro
      refine And.intro (fun w' hS' => ?_) ?_
      · go_wp2
        exact ⟨trivial, rfl⟩
      refine pl_take (i := 10) 39 rfl rfl rfl (by kernel_rfl) (by kernel_rfl) (by kernel_rfl) (by simp [Act.put]) hS.out ?_
      apply Exists.intro
      refine And.intro (fun w' hS' => ?_) ?_
      · go_wp2
        exact ⟨trivial, rfl⟩
      refine pl_take (i := 11) 40 rfl rfl rfl (by kernel_rfl) (by kernel_rfl) (by kernel_rfl) (by simp [Act.put]) hS.out ?_
      apply Exists.intro
      refine And.intro (fun w' hS' => ?_) ?_
      · refine wpList_unguard' rfl ?_
        clear hS'
        go_wp2
        exact ⟨trivial, rfl⟩
      refine pl_take (i := 12) 41 rfl rfl rfl (by kernel_rfl) (by kernel_rfl) (by kernel_rfl) (by simp [Act.put]) hS.out ?_
      apply Exists.intro
      refine And.intro (fun w' hS' => ?_) ?_
      · refine wpList_unguard' rfl ?_
        have hc := hS'.2.1.cell 0 _ rfl
        clear hS'
        go_wp2
        exact ⟨trivial, rfl⟩
      refine pl_take (i := 13) 42 rfl rfl rfl (by kernel_rfl) (by kernel_rfl) (by kernel_rfl) (by simp [Act.put]) hS.out ?_
      apply Exists.intro
      refine And.intro (fun w' hS' => ?_) ?_
      · refine wpList_unguard' rfl ?_
        clear hS'
        go_wp2
        exact ⟨trivial, rfl⟩
      refine pl_take (i := 14) 43 rfl rfl rfl (by kernel_rfl) (by kernel_rfl) (by kernel_rfl) (by simp [Act.put]) hS.out ?_
      apply Exists.intro
      refine And.intro (fun w' hS' => ?_) ?_
      · refine wpList_unguard' rfl ?_
        clear hS'
        go_wp2
        exact ⟨trivial, rfl⟩
      refine pl_take (i := 15) 44 rfl rfl rfl (by kernel_rfl) (by kernel_rfl) (by kernel_rfl) (by simp [Act.put]) hS.out ?_
      apply Exists.intro
      refine And.intro (fun w' hS' => ?_) ?_
      · refine wpList_unguard' rfl ?_
        clear hS'
        go_wp2
        exact ⟨trivial, rfl⟩
      try rw [Q2.out]
      refine pl_take (i := 16) 45 rfl rfl rfl (by kernel_rfl) (by kernel_rfl) (by kernel_rfl) (by simp [Act.put]) hS.out ?_
      apply Exists.intro
      refine And.intro (fun w' hS' => ?_) ?_
      · go_wp2
        exact ⟨trivial, rfl⟩
      refine pl_take (i := 17) 46 rfl rfl rfl (by kernel_rfl) (by kernel_rfl) (by kernel_rfl) (by simp [Act.put]) hS.out ?_
      apply Exists.intro
      refine And.intro (fun w' hS' => ?_) ?_
      · go_wp2
        exact ⟨trivial, rfl⟩
      refine pl_take (i := 18) 47 rfl rfl rfl (by kernel_rfl) (by kernel_rfl) (by kernel_rfl) (by simp [Act.put]) hS.out ?_
      apply Exists.intro
      refine And.intro (fun w' hS' => ?_) ?_
      · refine wpList_unguard' rfl ?_
        clear hS'
        go_wp2
        exact ⟨trivial, rfl⟩
      refine pl_take (i := 19) 48 rfl rfl rfl (by kernel_rfl) (by kernel_rfl) (by kernel_rfl) (by simp [Act.put]) hS.out ?_
      apply Exists.intro
      refine And.intro (fun w' hS' => ?_) ?_
      · refine wpList_unguard' rfl ?_
        clear hS'
        go_wp2
        exact ⟨trivial, rfl⟩
      refine pl_take (i := 20) 49 rfl rfl rfl (by kernel_rfl) (by kernel_rfl) (by kernel_rfl) (by simp [Act.put]) hS.out ?_
      apply Exists.intro
      refine And.intro (fun w' hS' => ?_) ?_
      · refine wpList_unguard' rfl ?_
        have hc := hS'.2.1.cell 0 _ rfl
        clear hS'
        go_wp2
        exact ⟨trivial, rfl⟩
      refine pl_takeM (i := 21) 50 rfl rfl rfl (by kernel_rfl) (by kernel_rfl) (by kernel_rfl) (by simp [Act.put]) hS.out ?_
      apply Exists.intro
      refine And.intro (fun w' hS' => ?_) ?_
      · refine wpList_unguard' rfl ?_
        clear hS'
        go_wp2
        exact ⟨trivial, rfl⟩
      refine pl_take (i := 22) 51 rfl rfl rfl (by kernel_rfl) (by kernel_rfl) (by kernel_rfl) (by simp [Act.put]) hS.out ?_
      apply Exists.intro
      refine And.intro (fun w' hS' => ?_) ?_
      · refine wpList_unguard' rfl ?_
        clear hS'
        go_wp2
        exact ⟨trivial, rfl⟩
      refine pl_take (i := 23) 52 rfl rfl rfl (by kernel_rfl) (by kernel_rfl) (by kernel_rfl) (by simp [Act.put]) hS.out ?_
      apply Exists.intro
      refine And.intro (fun w' hS' => ?_) ?_
      · refine wpList_unguard' rfl ?_
        clear hS'
        go_wp2
        exact ⟨trivial, rfl⟩
      refine pl_take (i := 24) 53 rfl rfl rfl (by kernel_rfl) (by kernel_rfl) (by kernel_rfl) (by simp [Act.put]) hS.out ?_
      apply Exists.intro
      refine And.intro (fun w' hS' => ?_) ?_
      · refine wpList_unguard' rfl ?_
        clear hS'
        go_wp2
        exact ⟨trivial, rfl⟩
      refine pl_takeM (i := 25) 54 rfl rfl rfl (by kernel_rfl) (by kernel_rfl) (by kernel_rfl) (by simp [Act.put]) hS.out ?_
      apply Exists.intro
      refine And.intro (fun w' hS' => ?_) ?_
      · refine wpList_unguard' rfl ?_
        clear hS'
        go_wp2
        exact ⟨trivial, rfl⟩
      refine pl_takeM (i := 26) 55 rfl rfl rfl (by kernel_rfl) (by kernel_rfl) (by kernel_rfl) (by simp [Act.put]) hS.out ?_
      apply Exists.intro
      refine And.intro (fun w' hS' => ?_) ?_
      · refine wpList_unguard' rfl ?_
        clear hS'
        go_wp2
        exact ⟨trivial, rfl⟩
      refine pl_take (i := 27) 56 rfl rfl rfl (by kernel_rfl) (by kernel_rfl) (by kernel_rfl) (by simp [Act.put]) hS.out ?_
      apply Exists.intro
      refine And.intro (fun w' hS' => ?_) ?_
      · refine wpList_unguard' rfl ?_
        clear hS'
        go_wp2
        exact ⟨trivial, rfl⟩
      refine pl_take (i := 28) 57 rfl rfl rfl (by kernel_rfl) (by kernel_rfl) (by kernel_rfl) (by simp [Act.put]) hS.out ?_
      apply Exists.intro
      refine And.intro (fun w' hS' => ?_) ?_
      · refine wpList_unguard' rfl ?_
        refine wpList_load_agg rfl 24 (.tmp 56) rfl (ad1.add (p * 32)) rfl (bvs y) _ (hS'.2.2.elem' HY.out.1) Try.underlying24 rfl (by rw [bvs_length, HY.out.2]; exact infoHash) ?_
        clear hS'
        go_wp2
        exact ⟨trivial, rfl⟩
      refine pl_take (i := 29) 58 rfl rfl rfl (by kernel_rfl) (by kernel_rfl) (by kernel_rfl) (by simp [Act.put]) hS.out ?_
      apply Exists.intro
      refine And.intro (fun w' hS' => ?_) ?_
      · refine wpList_unguard' rfl ?_
        refine wpList_load_agg rfl 24 (.tmp 4) rfl (⟨w.heap.size, 0, none⟩) rfl (bvs x) _ ((At.block hS'.1).load) Try.underlying24 rfl (by rw [bvs_length, HX.out.1]; exact infoHash) ?_
        clear hS'
        go_wp2
        exact ⟨trivial, rfl⟩
      refine pl_take (i := 30) 59 rfl rfl rfl (by kernel_rfl) (by kernel_rfl) (by kernel_rfl) (by simp [Act.put]) hS.out ?_
      apply Exists.intro
      refine And.intro (fun w' hS' => ?_) ?_
      · refine wpList_unguard' rfl ?_
        refine wpList_bin rfl .eql 24 24 (.tmp 57) (.tmp 58) rfl (.bool true) (eqGuard_agg _ _ _ _ _ _ _ (by kernel_rfl)) ((hash_eq w' y x HY.out.2 HX.out.1).trans (by rw [HYX.out])) ?_
        clear hS'
        go_wp2
        exact ⟨trivial, rfl⟩
      refine pl_take (i := 31) 60 rfl rfl rfl (by kernel_rfl) (by kernel_rfl) (by kernel_rfl) (by simp [Act.put]) hS.out ?_
      apply Exists.intro
      refine And.intro (fun w' hS' => ?_) ?_
      · go_wp2
        exact ⟨trivial, rfl⟩
      refine pl_take (i := 32) 10 rfl rfl rfl (by kernel_rfl) (by kernel_rfl) (by kernel_rfl) (by simp [Act.put]) hS.out ?_
      apply Exists.intro
      refine And.intro (fun w' hS' => ?_) ?_
      · go_wp2
        exact ⟨trivial, rfl⟩
      refine pl_done (by kernel_rfl) ?_
      go_wp2_with fail
      have bd4 : Below w4.heap.size w4 w4.drew := (Below.refl _ w4).drew
      replace TT := Lib.hid (TT.out.fresh bd4)
      replace hS := Lib.hid (And.intro (hS.out.1.fresh bd4) (And.intro (hS.out.2.1.fresh bd4) (hS.out.2.2.fresh bd4)))
      replace BB := Lib.hid BB.out.drew
      clear bd4
      refine pl_start 9 rfl (fun w' => CB w' 24 w.heap.size (bvs x) ∧ CB w' 92 (w.heap.size + 1) [.int .i64 (p : Int), .int .i64 c, .slice a0 N c0] ∧ Hs w' (.slice (some ad1) M c1) l) (by kernel_rfl) ?_
      obtain ⟨w5, hw5⟩ : ∃ w5, w5 = w4.drew := ⟨_, rfl⟩
      rw [← hw5] at hS BB TT ⊢
      clear hw5
      refine pl_take (i := 0) 61 rfl rfl rfl (by kernel_rfl) (by kernel_rfl) (by kernel_rfl) (by simp [Act.put]) hS.out ?_
      apply Exists.intro
      refine And.intro (fun w' hS' => ?_) ?_
      · go_wp2
        exact ⟨trivial, rfl⟩
      refine pl_take (i := 2) 63 rfl rfl rfl (by kernel_rfl) (by kernel_rfl) (by kernel_rfl) (by simp [Act.put]) hS.out ?_
      apply Exists.intro
      refine And.intro (fun w' hS' => ?_) ?_
      · refine wpList_load_agg rfl 24 (.tmp 4) rfl (⟨w.heap.size, 0, none⟩) rfl (bvs x) _ ((At.block hS'.1).load) Try.underlying24 rfl (by rw [bvs_length, HX.out.1]; exact infoHash) ?_
        clear hS'
        go_wp2
        exact ⟨trivial, rfl⟩
      refine pl_take (i := 3) 64 rfl rfl rfl (by kernel_rfl) (by kernel_rfl) (by kernel_rfl) (by simp [Act.put]) hS.out ?_
      apply Exists.intro
      refine And.intro (fun w' hS' => ?_) ?_
      · refine wpList_load_agg rfl 92 (.tmp 5) rfl ⟨w.heap.size + 1, 0, none⟩ rfl [.int .i64 (p : Int), .int .i64 c, .slice a0 N c0] _ (At.block hS'.2.1).load Try.underlying92 rfl (by exact infoPath) ?_
        clear hS'
        go_wp2
        exact ⟨trivial, rfl⟩
      refine pl_heavy (i := 1) rfl (by kernel_rfl) ?_
      go_wp2_with fail
      refine (CR.out w5 hS.out.2.2).mono ?_
      rintro e w6 ⟨rfl, b6⟩
      replace hS := Lib.hid (And.intro (hS.out.1.fresh b6) (And.intro (hS.out.2.1.fresh b6) (hS.out.2.2.fresh b6)))
      replace BB := Lib.hid (BB.out.tr b6)
      replace TT := Lib.hid (TT.out.fresh b6)
      clear b6
      go_wp2
      refine And.intro hS.out ?_
      refine pl_heavy (i := 4) rfl (by kernel_rfl) ?_
      go_wp2_with fail
      refine (CC.out w6 (H.out.fresh BB.out)).mono ?_
      rintro e w7 ⟨rfl, b7⟩
      replace hS := Lib.hid (And.intro (hS.out.1.fresh b7) (And.intro (hS.out.2.1.fresh b7) (hS.out.2.2.fresh b7)))
      replace BB := Lib.hid (BB.out.tr b7)
      replace TT := Lib.hid (TT.out.fresh b7)
      clear b7
      go_wp2
      refine And.intro hS.out ?_
      refine pl_take (i := 5) 66 rfl rfl rfl (by kernel_rfl) (by kernel_rfl) (by kernel_rfl) (by simp [Act.put]) hS.out ?_
      apply Exists.intro
      refine And.intro (fun w' hS' => ?_) ?_
      · go_wp2
        exact ⟨trivial, rfl⟩
      refine pl_take (i := 6) 67 rfl rfl rfl (by kernel_rfl) (by kernel_rfl) (by kernel_rfl) (by simp [Act.put]) hS.out ?_
      apply Exists.intro
      refine And.intro (fun w' hS' => ?_) ?_
      · go_wp2
        exact ⟨trivial, rfl⟩
      refine pl_take (i := 7) 68 rfl rfl rfl (by kernel_rfl) (by kernel_rfl) (by kernel_rfl) (by simp [Act.put]) hS.out ?_
      apply Exists.intro
      refine And.intro (fun w' hS' => ?_) ?_
      · refine wpList_unguard' rfl ?_
        clear hS'
        go_wp2
        exact ⟨trivial, rfl⟩
      refine pl_take (i := 8) 69 rfl rfl rfl (by kernel_rfl) (by kernel_rfl) (by kernel_rfl) (by simp [Act.put]) hS.out ?_
      apply Exists.intro
      refine And.intro (fun w' hS' => ?_) ?_
      · go_wp2
        exact ⟨trivial, rfl⟩
      have TN : va = .slice none 0 0 ∧ vb = .slice none 0 0 := by
        rcases TT.out with ⟨_, h1, h2⟩ | ⟨h1, _⟩
        · exact ⟨h1, h2⟩
        · cases h1
      obtain ⟨rfl, rfl⟩ := TN
      refine pl_done (by kernel_rfl) ?_
      go_wp2_with fail
      refine (yknown_any _).mono ?_
      rintro e w9 ⟨rfl, b9⟩
      replace BB := Lib.hid (BB.out.tr b9)
      clear b9
      go_wp2
      go_ret
      exact ⟨rfl, BB.out⟩
    · subst h0
      have hT0 : T = false := by rw [HX.out.2.1]; rfl
      subst hT0
      go_enter Try.func10, Try.ntmps10
      go_wp2_with (with_reducible refine stopAt 13 ?_)
      refine Stop.go ?_
      obtain ⟨w1, h1, k1, b1, s1⟩ := alloc_cb w 24 (bvs x)
      obtain ⟨w2, h2, k2, b2, s2⟩ := alloc_cb w1 92 [.int .i64 (p : Int), .int .i64 c, .slice a0 N c0]
      change wpList _ _ _ _ _ ((w.alloc (.cells (bvs x).toArray 24)).alloc (.cells [.int .i64 (p : Int), .int .i64 c, .slice a0 N c0].toArray 92))
      rw [← h1, ← h2]
      rw [s1] at s2 k2
      have hc2 := k2.cell 2 _ rfl
      have BB := Lib.hid (b1.tr b2)
      have SS := Lib.hid (And.intro (k1.fresh b2) k2)
      clear h1 h2 k1 k2 b1 b2 s1 s2
      go_wp2_with (with_reducible refine stopAt 22 ?_)
      refine Stop.go ?_
      clear hc2
      refine wpList_load_agg rfl 24 (.tmp 4) rfl (⟨w.heap.size, 0, none⟩) rfl (bvs x) _ ((At.block SS.out.1).load) Try.underlying24 rfl (by rw [bvs_length, HX.out.1]; exact infoHash) ?_
      go_wp2_with (with_reducible refine stopAt 23 ?_)
      refine Stop.go ?_
      refine wpList_load_agg rfl 92 (.tmp 5) rfl ⟨w.heap.size + 1, 0, none⟩ rfl [.int .i64 (p : Int), .int .i64 c, .slice a0 N c0] _ (At.block SS.out.2).load Try.underlying92 rfl (by exact infoPath) ?_
      go_wp2_with fail
      refine (CO.out _ (H.out.fresh BB.out) (HI.out.fresh BB.out)).mono ?_
      rintro e w3 ⟨va, vb, rfl, ht, b3⟩
      replace SS := Lib.hid (And.intro (SS.out.1.fresh b3.drew) (SS.out.2.fresh b3.drew))
      replace BB := Lib.hid (BB.out.tr b3).drew
      have TT := Lib.hid (ht.fresh (show Below w3.heap.size w3 w3.drew from (Below.refl _ w3).drew))
      have hS := Lib.hid (And.intro SS.out.1 (And.intro SS.out.2 (HI.out.fresh BB.out)))
      clear b3 ht SS
      go_wp2_with fail
      refine pl_start 33 rfl (fun w' => CB w' 24 w.heap.size (bvs x) ∧ CB w' 92 (w.heap.size + 1) [.int .i64 (p : Int), .int .i64 c, .slice a0 N c0] ∧ Hs w' (.slice (some ad1) M c1) l) (by kernel_rfl) ?_
      obtain ⟨w4, hw4⟩ : ∃ w4, w4 = w3.drew := ⟨_, rfl⟩
      rw [← hw4] at hS BB TT ⊢
      clear hw4
      refine pl_take (i := 0) 29 rfl rfl rfl (by kernel_rfl) (by kernel_rfl) (by kernel_rfl) (by simp [Act.put]) hS.out ?_
      apply Exists.intro
      refine And.intro (fun w' hS' => ?_) ?_
      · go_wp2
        exact ⟨trivial, rfl⟩
      refine pl_take (i := 1) 30 rfl rfl rfl (by kernel_rfl) (by kernel_rfl) (by kernel_rfl) (by simp [Act.put]) hS.out ?_
      apply Exists.intro
      refine And.intro (fun w' hS' => ?_) ?_
      · have hc := hS'.2.1.cell 1 _ rfl
        clear hS'
        go_wp2
        exact ⟨trivial, rfl⟩
      refine pl_take (i := 2) 31 rfl rfl rfl (by kernel_rfl) (by kernel_rfl) (by kernel_rfl) (by simp [Act.put]) hS.out ?_
      apply Exists.intro
      refine And.intro (fun w' hS' => ?_) ?_
      · go_wp2
        exact ⟨trivial, rfl⟩
      refine pl_take (i := 3) 32 rfl rfl rfl (by kernel_rfl) (by kernel_rfl) (by kernel_rfl) (by simp [Act.put]) hS.out ?_
      apply Exists.intro
      refine And.intro (fun w' hS' => ?_) ?_
      · go_wp2
        exact ⟨trivial, rfl⟩
      refine pl_take (i := 4) 33 rfl rfl rfl (by kernel_rfl) (by kernel_rfl) (by kernel_rfl) (by simp [Act.put]) hS.out ?_
      apply Exists.intro
      refine And.intro (fun w' hS' => ?_) ?_
      · go_wp2
        exact ⟨trivial, rfl⟩
      refine pl_take (i := 5) 34 rfl rfl rfl (by kernel_rfl) (by kernel_rfl) (by kernel_rfl) (by simp [Act.put]) hS.out ?_
      apply Exists.intro
      refine And.intro (fun w' hS' => ?_) ?_
      · go_wp2
        exact ⟨trivial, rfl⟩
      refine pl_take (i := 6) 35 rfl rfl rfl (by kernel_rfl) (by kernel_rfl) (by kernel_rfl) (by simp [Act.put]) hS.out ?_
      apply Exists.intro
      refine And.intro (fun w' hS' => ?_) ?_
      · refine wpList_unguard' rfl ?_
        clear hS'
        go_wp2
        exact ⟨trivial, rfl⟩
      refine pl_take (i := 7) 36 rfl rfl rfl (by kernel_rfl) (by kernel_rfl) (by kernel_rfl) (by simp [Act.put]) hS.out ?_
      apply Exists.intro
      refine And.intro (fun w' hS' => ?_) ?_
      · refine wpList_unguard' rfl ?_
        have hc := hS'.2.1.cell 0 _ rfl
        clear hS'
        go_wp2
        exact ⟨trivial, rfl⟩
      refine pl_take (i := 8) 37 rfl rfl rfl (by kernel_rfl) (by kernel_rfl) (by kernel_rfl) (by simp [Act.put]) hS.out ?_
      apply Exists.intro
      refine And.intro (fun w' hS' => ?_) ?_
      · refine wpList_unguard' rfl ?_
        clear hS'
        go_wp2
        exact ⟨trivial, rfl⟩
      try rw [Q1.out]
      refine pl_take (i := 9) 38 rfl rfl rfl (by kernel_rfl) (by kernel_rfl) (by kernel_rfl) (by simp [Act.put]) hS.out ?_
      apply Exists.intro
      refine And.intro (fun w' hS' => ?_) ?_
      · go_wp2
        exact ⟨trivial, rfl⟩
      refine pl_take (i := 10) 39 rfl rfl rfl (by kernel_rfl) (by kernel_rfl) (by kernel_rfl) (by simp [Act.put]) hS.out ?_
      apply Exists.intro
      refine And.intro (fun w' hS' => ?_) ?_
      · go_wp2
        exact ⟨trivial, rfl⟩
      refine pl_take (i := 11) 40 rfl rfl rfl (by kernel_rfl) (by kernel_rfl) (by kernel_rfl) (by simp [Act.put]) hS.out ?_
      apply Exists.intro
      refine And.intro (fun w' hS' => ?_) ?_
      · refine wpList_unguard' rfl ?_
        clear hS'
        go_wp2
        exact ⟨trivial, rfl⟩
      refine pl_take (i := 12) 41 rfl rfl rfl (by kernel_rfl) (by kernel_rfl) (by kernel_rfl) (by simp [Act.put]) hS.out ?_
      apply Exists.intro
      refine And.intro (fun w' hS' => ?_) ?_
      · refine wpList_unguard' rfl ?_
        have hc := hS'.2.1.cell 0 _ rfl
        clear hS'
        go_wp2
        exact ⟨trivial, rfl⟩
      refine pl_take (i := 13) 42 rfl rfl rfl (by kernel_rfl) (by kernel_rfl) (by kernel_rfl) (by simp [Act.put]) hS.out ?_
      apply Exists.intro
      refine And.intro (fun w' hS' => ?_) ?_
      · refine wpList_unguard' rfl ?_
        clear hS'
        go_wp2
        exact ⟨trivial, rfl⟩
      refine pl_take (i := 14) 43 rfl rfl rfl (by kernel_rfl) (by kernel_rfl) (by kernel_rfl) (by simp [Act.put]) hS.out ?_
      apply Exists.intro
      refine And.intro (fun w' hS' => ?_) ?_
      · refine wpList_unguard' rfl ?_
        clear hS'
        go_wp2
        exact ⟨trivial, rfl⟩
      refine pl_take (i := 15) 44 rfl rfl rfl (by kernel_rfl) (by kernel_rfl) (by kernel_rfl) (by simp [Act.put]) hS.out ?_
      apply Exists.intro
      refine And.intro (fun w' hS' => ?_) ?_
      · refine wpList_unguard' rfl ?_
        clear hS'
        go_wp2
        exact ⟨trivial, rfl⟩
      try rw [Q2.out]
      refine pl_take (i := 16) 45 rfl rfl rfl (by kernel_rfl) (by kernel_rfl) (by kernel_rfl) (by simp [Act.put]) hS.out ?_
      apply Exists.intro
      refine And.intro (fun w' hS' => ?_) ?_
      · go_wp2
        exact ⟨trivial, rfl⟩
      refine pl_take (i := 17) 46 rfl rfl rfl (by kernel_rfl) (by kernel_rfl) (by kernel_rfl) (by simp [Act.put]) hS.out ?_
      apply Exists.intro
      refine And.intro (fun w' hS' => ?_) ?_
      · go_wp2
        exact ⟨trivial, rfl⟩
      refine pl_take (i := 18) 47 rfl rfl rfl (by kernel_rfl) (by kernel_rfl) (by kernel_rfl) (by simp [Act.put]) hS.out ?_
      apply Exists.intro
      refine And.intro (fun w' hS' => ?_) ?_
      · refine wpList_unguard' rfl ?_
        clear hS'
        go_wp2
        exact ⟨trivial, rfl⟩
      refine pl_take (i := 19) 48 rfl rfl rfl (by kernel_rfl) (by kernel_rfl) (by kernel_rfl) (by simp [Act.put]) hS.out ?_
      apply Exists.intro
      refine And.intro (fun w' hS' => ?_) ?_
      · refine wpList_unguard' rfl ?_
        clear hS'
        go_wp2
        exact ⟨trivial, rfl⟩
      refine pl_take (i := 20) 49 rfl rfl rfl (by kernel_rfl) (by kernel_rfl) (by kernel_rfl) (by simp [Act.put]) hS.out ?_
      apply Exists.intro
      refine And.intro (fun w' hS' => ?_) ?_
      · refine wpList_unguard' rfl ?_
        have hc := hS'.2.1.cell 0 _ rfl
        clear hS'
        go_wp2
        exact ⟨trivial, rfl⟩
      refine pl_takeM (i := 21) 50 rfl rfl rfl (by kernel_rfl) (by kernel_rfl) (by kernel_rfl) (by simp [Act.put]) hS.out ?_
      apply Exists.intro
      refine And.intro (fun w' hS' => ?_) ?_
      · refine wpList_unguard' rfl ?_
        clear hS'
        go_wp2
        exact ⟨trivial, rfl⟩
      refine pl_take (i := 22) 51 rfl rfl rfl (by kernel_rfl) (by kernel_rfl) (by kernel_rfl) (by simp [Act.put]) hS.out ?_
      apply Exists.intro
      refine And.intro (fun w' hS' => ?_) ?_
      · refine wpList_unguard' rfl ?_
        clear hS'
        go_wp2
        exact ⟨trivial, rfl⟩
      refine pl_take (i := 23) 52 rfl rfl rfl (by kernel_rfl) (by kernel_rfl) (by kernel_rfl) (by simp [Act.put]) hS.out ?_
      apply Exists.intro
      refine And.intro (fun w' hS' => ?_) ?_
      · refine wpList_unguard' rfl ?_
        clear hS'
        go_wp2
        exact ⟨trivial, rfl⟩
      refine pl_take (i := 24) 53 rfl rfl rfl (by kernel_rfl) (by kernel_rfl) (by kernel_rfl) (by simp [Act.put]) hS.out ?_
      apply Exists.intro
      refine And.intro (fun w' hS' => ?_) ?_
      · refine wpList_unguard' rfl ?_
        clear hS'
        go_wp2
        exact ⟨trivial, rfl⟩
      refine pl_takeM (i := 25) 54 rfl rfl rfl (by kernel_rfl) (by kernel_rfl) (by kernel_rfl) (by simp [Act.put]) hS.out ?_
      apply Exists.intro
      refine And.intro (fun w' hS' => ?_) ?_
      · refine wpList_unguard' rfl ?_
        clear hS'
        go_wp2
        exact ⟨trivial, rfl⟩
      refine pl_takeM (i := 26) 55 rfl rfl rfl (by kernel_rfl) (by kernel_rfl) (by kernel_rfl) (by simp [Act.put]) hS.out ?_
      apply Exists.intro
      refine And.intro (fun w' hS' => ?_) ?_
      · refine wpList_unguard' rfl ?_
        clear hS'
        go_wp2
        exact ⟨trivial, rfl⟩
      refine pl_take (i := 27) 56 rfl rfl rfl (by kernel_rfl) (by kernel_rfl) (by kernel_rfl) (by simp [Act.put]) hS.out ?_
      apply Exists.intro
      refine And.intro (fun w' hS' => ?_) ?_
      · refine wpList_unguard' rfl ?_
        clear hS'
        go_wp2
        exact ⟨trivial, rfl⟩
      refine pl_take (i := 28) 57 rfl rfl rfl (by kernel_rfl) (by kernel_rfl) (by kernel_rfl) (by simp [Act.put]) hS.out ?_
      apply Exists.intro
      refine And.intro (fun w' hS' => ?_) ?_
      · refine wpList_unguard' rfl ?_
        refine wpList_load_agg rfl 24 (.tmp 56) rfl (ad1.add (p * 32)) rfl (bvs y) _ (hS'.2.2.elem' HY.out.1) Try.underlying24 rfl (by rw [bvs_length, HY.out.2]; exact infoHash) ?_
        clear hS'
        go_wp2
        exact ⟨trivial, rfl⟩
      refine pl_take (i := 29) 58 rfl rfl rfl (by kernel_rfl) (by kernel_rfl) (by kernel_rfl) (by simp [Act.put]) hS.out ?_
      apply Exists.intro
      refine And.intro (fun w' hS' => ?_) ?_
      · refine wpList_unguard' rfl ?_
        refine wpList_load_agg rfl 24 (.tmp 4) rfl (⟨w.heap.size, 0, none⟩) rfl (bvs x) _ ((At.block hS'.1).load) Try.underlying24 rfl (by rw [bvs_length, HX.out.1]; exact infoHash) ?_
        clear hS'
        go_wp2
        exact ⟨trivial, rfl⟩
      refine pl_take (i := 30) 59 rfl rfl rfl (by kernel_rfl) (by kernel_rfl) (by kernel_rfl) (by simp [Act.put]) hS.out ?_
      apply Exists.intro
      refine And.intro (fun w' hS' => ?_) ?_
      · refine wpList_unguard' rfl ?_
        refine wpList_bin rfl .eql 24 24 (.tmp 57) (.tmp 58) rfl (.bool true) (eqGuard_agg _ _ _ _ _ _ _ (by kernel_rfl)) ((hash_eq w' y x HY.out.2 HX.out.1).trans (by rw [HYX.out])) ?_
        clear hS'
        go_wp2
        exact ⟨trivial, rfl⟩
      refine pl_take (i := 31) 60 rfl rfl rfl (by kernel_rfl) (by kernel_rfl) (by kernel_rfl) (by simp [Act.put]) hS.out ?_
      apply Exists.intro
      refine And.intro (fun w' hS' => ?_) ?_
      · go_wp2
        exact ⟨trivial, rfl⟩
      refine pl_take (i := 32) 10 rfl rfl rfl (by kernel_rfl) (by kernel_rfl) (by kernel_rfl) (by simp [Act.put]) hS.out ?_
      apply Exists.intro
      refine And.intro (fun w' hS' => ?_) ?_
      · go_wp2
        exact ⟨trivial, rfl⟩
      refine pl_done (by kernel_rfl) ?_
      go_wp2_with fail
      have bd4 : Below w4.heap.size w4 w4.drew := (Below.refl _ w4).drew
      replace TT := Lib.hid (TT.out.fresh bd4)
      replace hS := Lib.hid (And.intro (hS.out.1.fresh bd4) (And.intro (hS.out.2.1.fresh bd4) (hS.out.2.2.fresh bd4)))
      replace BB := Lib.hid BB.out.drew
      clear bd4
      refine pl_start 9 rfl (fun w' => CB w' 24 w.heap.size (bvs x) ∧ CB w' 92 (w.heap.size + 1) [.int .i64 (p : Int), .int .i64 c, .slice a0 N c0] ∧ Hs w' (.slice (some ad1) M c1) l) (by kernel_rfl) ?_
      obtain ⟨w5, hw5⟩ : ∃ w5, w5 = w4.drew := ⟨_, rfl⟩
      rw [← hw5] at hS BB TT ⊢
      clear hw5
      refine pl_take (i := 0) 61 rfl rfl rfl (by kernel_rfl) (by kernel_rfl) (by kernel_rfl) (by simp [Act.put]) hS.out ?_
      apply Exists.intro
      refine And.intro (fun w' hS' => ?_) ?_
      · go_wp2
        exact ⟨trivial, rfl⟩
      refine pl_take (i := 2) 63 rfl rfl rfl (by kernel_rfl) (by kernel_rfl) (by kernel_rfl) (by simp [Act.put]) hS.out ?_
      apply Exists.intro
      refine And.intro (fun w' hS' => ?_) ?_
      · refine wpList_load_agg rfl 24 (.tmp 4) rfl (⟨w.heap.size, 0, none⟩) rfl (bvs x) _ ((At.block hS'.1).load) Try.underlying24 rfl (by rw [bvs_length, HX.out.1]; exact infoHash) ?_
        clear hS'
        go_wp2
        exact ⟨trivial, rfl⟩
      refine pl_take (i := 3) 64 rfl rfl rfl (by kernel_rfl) (by kernel_rfl) (by kernel_rfl) (by simp [Act.put]) hS.out ?_
      apply Exists.intro
      refine And.intro (fun w' hS' => ?_) ?_
      · refine wpList_load_agg rfl 92 (.tmp 5) rfl ⟨w.heap.size + 1, 0, none⟩ rfl [.int .i64 (p : Int), .int .i64 c, .slice a0 N c0] _ (At.block hS'.2.1).load Try.underlying92 rfl (by exact infoPath) ?_
        clear hS'
        go_wp2
        exact ⟨trivial, rfl⟩
      refine pl_heavy (i := 1) rfl (by kernel_rfl) ?_
      go_wp2_with fail
      refine (CR.out w5 hS.out.2.2).mono ?_
      rintro e w6 ⟨rfl, b6⟩
      replace hS := Lib.hid (And.intro (hS.out.1.fresh b6) (And.intro (hS.out.2.1.fresh b6) (hS.out.2.2.fresh b6)))
      replace BB := Lib.hid (BB.out.tr b6)
      replace TT := Lib.hid (TT.out.fresh b6)
      clear b6
      go_wp2
      refine And.intro hS.out ?_
      refine pl_heavy (i := 4) rfl (by kernel_rfl) ?_
      go_wp2_with fail
      refine (CC.out w6 (H.out.fresh BB.out)).mono ?_
      rintro e w7 ⟨rfl, b7⟩
      replace hS := Lib.hid (And.intro (hS.out.1.fresh b7) (And.intro (hS.out.2.1.fresh b7) (hS.out.2.2.fresh b7)))
      replace BB := Lib.hid (BB.out.tr b7)
      replace TT := Lib.hid (TT.out.fresh b7)
      clear b7
      go_wp2
      refine And.intro hS.out ?_
      refine pl_take (i := 5) 66 rfl rfl rfl (by kernel_rfl) (by kernel_rfl) (by kernel_rfl) (by simp [Act.put]) hS.out ?_
      apply Exists.intro
      refine And.intro (fun w' hS' => ?_) ?_
      · go_wp2
        exact ⟨trivial, rfl⟩
      refine pl_take (i := 6) 67 rfl rfl rfl (by kernel_rfl) (by kernel_rfl) (by kernel_rfl) (by simp [Act.put]) hS.out ?_
      apply Exists.intro
      refine And.intro (fun w' hS' => ?_) ?_
      · go_wp2
        exact ⟨trivial, rfl⟩
      refine pl_skip (i := 7) rfl (by kernel_rfl) (by kernel_rfl) (by kernel_rfl) (by kernel_rfl) hS.out ?_
      apply Exists.intro
      refine And.intro (by simp [Act.put, go_sem]; rfl) ?_
      refine pl_take (i := 8) 69 rfl rfl rfl (by kernel_rfl) (by kernel_rfl) (by kernel_rfl) (by simp [Act.put]) hS.out ?_
      apply Exists.intro
      refine And.intro (fun w' hS' => ?_) ?_
      · go_wp2
        exact ⟨trivial, rfl⟩
      have TN : va = .slice none 0 0 ∧ vb = .slice none 0 0 := by
        rcases TT.out with ⟨_, h1, h2⟩ | ⟨h1, _⟩
        · exact ⟨h1, h2⟩
        · cases h1
      obtain ⟨rfl, rfl⟩ := TN
      refine pl_done (by kernel_rfl) ?_
      go_wp2_with fail
      refine (yknown_any _).mono ?_
      rintro e w9 ⟨rfl, b9⟩
      replace BB := Lib.hid (BB.out.tr b9)
      clear b9
      go_wp2
      go_ret
      exact ⟨rfl, BB.out⟩

end Go.Proofs.Ytbabjepblakboaa
