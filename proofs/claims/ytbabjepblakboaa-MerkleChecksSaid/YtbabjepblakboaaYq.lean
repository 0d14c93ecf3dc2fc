/- MerkleChecks: the law's walk. -/
import Derived.Test.YtbabjepblakboaaYn
import Derived.Test.YtbabjepblakboaaYo
namespace Go.Proofs.Ytbabjepblakboaa
set_option linter.unusedVariables false
set_option linter.unusedSimpArgs false
open Go.RowKit Go.Lib

set_option maxRecDepth 100000 in
set_option maxHeartbeats 4000000 in
theorem ychecks_any (w : World) (r x : Bs) (n c : Int) (v : Value) (hs : List Bs) (hr : r.length = 32) (hx : x.length = 32) (h : Hs w v hs) :
    Calls Try.prog 9 #[.agg (bvs r).toArray, .agg (bvs x).toArray, .agg #[.int .i64 n, .int .i64 c, v]] w fun e w' => e = .returned (.bool true) ∧ Below w.heap.size w w' := by
  obtain ⟨a0, c0, rfl⟩ := h.slice
  obtain ⟨N, hN⟩ : ∃ N, N = hs.length := ⟨_, rfl⟩
  have CLd := fun w0 h0 => mlead_any w0 x n c (.slice a0 hs.length c0) hs hx h0
  have CCk := fun w0 h0 => mcheck_any w0 r x n c (.slice a0 hs.length c0) hs hr hx h0
  have CRk := fun w0 h0 => rcheck_any w0 r x n c (.slice a0 hs.length c0) hs hr hx h0
  have CMy := fun w0 h0 => rmay_any w0 n c (.slice a0 hs.length c0) hs h0
  rw [← hN] at h CLd CCk CRk CMy ⊢
  obtain ⟨L, hL⟩ : ∃ L, L = leadR n c x hs := ⟨_, rfl⟩
  obtain ⟨E, hE⟩ : ∃ E, E = leadE n c hs := ⟨_, rfl⟩
  obtain ⟨C, hC⟩ : ∃ C, C = checkE r x n c hs := ⟨_, rfl⟩
  have hLl : L.length = 32 := by rw [hL]; exact leadR_length _ _ _ _
  rw [← hL, ← hE] at CLd
  rw [← hC] at CCk CRk
  replace CLd := Lib.hid CLd
  replace CCk := Lib.hid CCk
  replace CRk := Lib.hid CRk
  have H := Lib.hid h
  have HL := Lib.hid (And.intro hLl (And.intro hr hx))
  have HLE := Lib.hid (And.intro hL hE)
  clear h hC hLl hr hL hE
  have CKn := Lib.hid (fun w0 => yknown_any w0)
  have CNm := Lib.hid (fun w0 k => ynum_any w0 k)
  by_cases h100 : 100 < N
  · have i1 : (100 : Int) < (N : Int) := by omega
    clear CMy hN h100 hx
    go_enter Try.func9, Try.ntmps9
    go_wp2_with (with_reducible refine stopAt 10 ?_)
    refine Stop.go ?_
    obtain ⟨w1, h1, k1, b1, s1⟩ := alloc_cb w 24 (bvs r)
    obtain ⟨w2, h2, k2, b2, s2⟩ := alloc_cb w1 24 (bvs x)
    obtain ⟨w3, h3, k3, b3, s3⟩ := alloc_cb w2 92 [.int .i64 n, .int .i64 c, .slice a0 N c0]
    change wpList _ _ _ _ _ (((w.alloc (.cells (bvs r).toArray 24)).alloc (.cells (bvs x).toArray 24)).alloc (.cells [.int .i64 n, .int .i64 c, .slice a0 N c0].toArray 92))
    rw [← h1, ← h2, ← h3]
    rw [s1] at s2 k2
    rw [s2] at s3 k3
    have hc2 := k3.cell 2 _ rfl
    have B3 := Lib.hid ((b1.tr b2).tr b3)
    clear h1 h2 h3 k1 k2 k3 b1 b2 b3 s1 s2 s3
    go_wp2_with fail
    refine (CKn.out _).mono ?_
    rintro e w4 ⟨rfl, b4⟩
    have B4 := Lib.hid (B3.out.tr b4)
    clear b4
    go_wp2
    go_ret
    exact ⟨rfl, B4.out⟩
  · have i1 : ¬ ((100 : Int) < (N : Int)) := by omega
    cases hm : mayB n c hs with
    | false =>
      rw [hm] at CMy
      have CMy := Lib.hid CMy
      have hE21 : E = 21 := by rw [HLE.out.2, leadE, hm]; rfl
      subst hE21
      have hL0 : Hid (L = List.replicate 32 0) := Lib.hid (by rw [HLE.out.1, leadR, hm]; rfl)
      clear hN h100 hx hm HLE
      go_enter Try.func9, Try.ntmps9
      go_wp2_with (with_reducible refine stopAt 10 ?_)
      refine Stop.go ?_
      obtain ⟨w1, h1, k1, b1, s1⟩ := alloc_cb w 24 (bvs r)
      obtain ⟨w2, h2, k2, b2, s2⟩ := alloc_cb w1 24 (bvs x)
      obtain ⟨w3, h3, k3, b3, s3⟩ := alloc_cb w2 92 [.int .i64 n, .int .i64 c, .slice a0 N c0]
      change wpList _ _ _ _ _ (((w.alloc (.cells (bvs r).toArray 24)).alloc (.cells (bvs x).toArray 24)).alloc (.cells [.int .i64 n, .int .i64 c, .slice a0 N c0].toArray 92))
      rw [← h1, ← h2, ← h3]
      rw [s1] at s2 k2
      rw [s2] at s3 k3
      have hc2 := k3.cell 2 _ rfl
      have BB := Lib.hid ((b1.tr b2).tr b3)
      have SS := Lib.hid (And.intro ((k1.fresh b2).fresh b3) (And.intro (k2.fresh b3) k3))
      clear h1 h2 h3 k1 k2 k3 b1 b2 b3 s1 s2 s3
      go_wp2_with (with_reducible refine stopAt 15 ?_)
      refine Stop.go ?_
      clear hc2
      refine wpList_load_agg rfl 24 (.tmp 4) rfl (⟨w.heap.size + 1, 0, none⟩) rfl (bvs x) _ (At.block SS.out.2.1).load Try.underlying24 rfl (by rw [bvs_length, HL.out.2.2]; exact infoHash) ?_
      go_wp2_with (with_reducible refine stopAt 16 ?_)
      refine Stop.go ?_
      refine wpList_load_agg rfl 92 (.tmp 5) rfl ⟨w.heap.size + 1 + 1, 0, none⟩ rfl [.int .i64 n, .int .i64 c, .slice a0 N c0] _ (At.block SS.out.2.2).load Try.underlying92 rfl (by exact infoPath) ?_
      go_wp2_with fail
      refine (CLd.out _ (H.out.fresh BB.out)).mono ?_
      rintro e w4 ⟨rfl, b4⟩
      replace SS := Lib.hid (And.intro (SS.out.1.fresh b4) (And.intro (SS.out.2.1.fresh b4) (SS.out.2.2.fresh b4)))
      replace BB := Lib.hid (BB.out.tr b4)
      clear b4
      go_wp2_with (with_reducible refine stopStore 24 ?_)
      refine Stop.go ?_
      refine wpList_store_var rfl 24 (.tmp 7) (.tmp 18) rfl w4.heap.size _ rfl _ (bvs L) rfl (heap_alloc_new w4 _) (by simp [HL.out.1]) (bvs_one _) (by rw [bvs_length, HL.out.1]; exact infoHash) ?_
      intro w5 kw5 ow5
      have bw5 : Below w4.heap.size w4 w5 := Below.only ((Below.refl _ w4).alloc (Nat.le_refl _) _) ow5 (Nat.le_refl _)
      replace kw5 : CB w5 24 w4.heap.size (bvs L) := kw5
      clear ow5
      obtain ⟨D, hD⟩ : ∃ D, D = w4.heap.size := ⟨_, rfl⟩
      rw [← hD] at kw5 ⊢
      have SS2 : Hid (CB w5.drew 24 w.heap.size (bvs r) ∧ CB w5.drew 24 (w.heap.size + 1) (bvs x) ∧ CB w5.drew 92 (w.heap.size + 1 + 1) [.int .i64 n, .int .i64 c, .slice a0 N c0] ∧ CB w5.drew 24 D (bvs L)) := Lib.hid ⟨SS.out.1.fresh bw5.drew, SS.out.2.1.fresh bw5.drew, SS.out.2.2.fresh bw5.drew, kw5⟩
      replace SS := SS2
      replace BB := Lib.hid (BB.out.tr bw5).drew
      clear SS2 bw5 kw5 hD
      go_wp2_with fail
      refine pl_start 10 rfl (fun w' => CB w' 24 w.heap.size (bvs r) ∧ CB w' 24 (w.heap.size + 1) (bvs x) ∧ CB w' 92 (w.heap.size + 1 + 1) [.int .i64 n, .int .i64 c, .slice a0 N c0] ∧ CB w' 24 D (bvs L)) (by kernel_rfl) ?_
      obtain ⟨u0, hu0⟩ : ∃ u0, u0 = w5.drew := ⟨_, rfl⟩
      rw [← hu0] at SS BB ⊢
      clear hu0
      refine pl_take (i := 0) 20 rfl rfl rfl (by kernel_rfl) (by kernel_rfl) (by kernel_rfl) (by simp [Act.put]) SS.out ?_
      apply Exists.intro
      refine And.intro (fun w' hS' => ?_) ?_
      · refine wpList_load_agg rfl 24 (.tmp 3) rfl (⟨w.heap.size, 0, none⟩) rfl (bvs r) _ ((At.block hS'.1).load) Try.underlying24 rfl (by rw [bvs_length, HL.out.2.1]; exact infoHash) ?_
        go_wp2
        exact ⟨trivial, rfl⟩
      refine pl_take (i := 1) 21 rfl rfl rfl (by kernel_rfl) (by kernel_rfl) (by kernel_rfl) (by simp [Act.put]) SS.out ?_
      apply Exists.intro
      refine And.intro (fun w' hS' => ?_) ?_
      · refine wpList_load_agg rfl 24 (.tmp 4) rfl (⟨w.heap.size + 1, 0, none⟩) rfl (bvs x) _ ((At.block hS'.2.1).load) Try.underlying24 rfl (by rw [bvs_length, HL.out.2.2]; exact infoHash) ?_
        go_wp2
        exact ⟨trivial, rfl⟩
      refine pl_take (i := 2) 22 rfl rfl rfl (by kernel_rfl) (by kernel_rfl) (by kernel_rfl) (by simp [Act.put]) SS.out ?_
      apply Exists.intro
      refine And.intro (fun w' hS' => ?_) ?_
      · refine wpList_load_agg rfl 92 (.tmp 5) rfl ⟨w.heap.size + 1 + 1, 0, none⟩ rfl [.int .i64 n, .int .i64 c, .slice a0 N c0] _ (At.block hS'.2.2.1).load Try.underlying92 rfl (by exact infoPath) ?_
        clear hS'
        go_wp2
        exact ⟨trivial, rfl⟩
      refine pl_take (i := 5) 25 rfl rfl rfl (by kernel_rfl) (by kernel_rfl) (by kernel_rfl) (by simp [Act.put]) SS.out ?_
      apply Exists.intro
      refine And.intro (fun w' hS' => ?_) ?_
      · refine wpList_load_agg rfl 24 (.tmp 3) rfl (⟨w.heap.size, 0, none⟩) rfl (bvs r) _ ((At.block hS'.1).load) Try.underlying24 rfl (by rw [bvs_length, HL.out.2.1]; exact infoHash) ?_
        go_wp2
        exact ⟨trivial, rfl⟩
      refine pl_take (i := 6) 26 rfl rfl rfl (by kernel_rfl) (by kernel_rfl) (by kernel_rfl) (by simp [Act.put]) SS.out ?_
      apply Exists.intro
      refine And.intro (fun w' hS' => ?_) ?_
      · refine wpList_load_agg rfl 24 (.tmp 4) rfl (⟨w.heap.size + 1, 0, none⟩) rfl (bvs x) _ ((At.block hS'.2.1).load) Try.underlying24 rfl (by rw [bvs_length, HL.out.2.2]; exact infoHash) ?_
        go_wp2
        exact ⟨trivial, rfl⟩
      refine pl_take (i := 7) 27 rfl rfl rfl (by kernel_rfl) (by kernel_rfl) (by kernel_rfl) (by simp [Act.put]) SS.out ?_
      apply Exists.intro
      refine And.intro (fun w' hS' => ?_) ?_
      · refine wpList_load_agg rfl 92 (.tmp 5) rfl ⟨w.heap.size + 1 + 1, 0, none⟩ rfl [.int .i64 n, .int .i64 c, .slice a0 N c0] _ (At.block hS'.2.2.1).load Try.underlying92 rfl (by exact infoPath) ?_
        clear hS'
        go_wp2
        exact ⟨trivial, rfl⟩
      refine pl_heavy (i := 3) rfl (by kernel_rfl) ?_
      go_wp2_with fail
      refine (CCk.out u0 (H.out.fresh BB.out)).mono ?_
      rintro e u1 ⟨rfl, b⟩
      replace SS := Lib.hid (And.intro (SS.out.1.fresh b) (And.intro (SS.out.2.1.fresh b) (And.intro (SS.out.2.2.1.fresh b) (SS.out.2.2.2.fresh b))))
      replace BB := Lib.hid (BB.out.tr b)
      clear b
      go_wp2
      refine And.intro SS.out ?_
      refine pl_heavy (i := 4) rfl (by kernel_rfl) ?_
      go_wp2_with fail
      refine (CNm.out u1 _).mono ?_
      rintro e u2 ⟨rfl, rfl⟩
      go_wp2
      refine And.intro SS.out ?_
      refine pl_heavy (i := 8) rfl (by kernel_rfl) ?_
      go_wp2_with fail
      refine (CRk.out u2 (H.out.fresh BB.out)).mono ?_
      rintro e u3 ⟨rfl, b⟩
      replace SS := Lib.hid (And.intro (SS.out.1.fresh b) (And.intro (SS.out.2.1.fresh b) (And.intro (SS.out.2.2.1.fresh b) (SS.out.2.2.2.fresh b))))
      replace BB := Lib.hid (BB.out.tr b)
      clear b
      go_wp2
      refine And.intro SS.out ?_
      refine pl_take (i := 9) 29 rfl rfl rfl (by kernel_rfl) (by kernel_rfl) (by kernel_rfl) (by simp [Act.put]) SS.out ?_
      apply Exists.intro
      refine And.intro (fun w' hS' => ?_) ?_
      · go_wp2
        exact ⟨trivial, rfl⟩
      refine pl_done (by kernel_rfl) ?_
      go_wp2_with (with_reducible refine stopAt 30 ?_)
      refine Stop.go ?_
      refine wpList_load_agg rfl 92 (.tmp 5) rfl ⟨w.heap.size + 1 + 1, 0, none⟩ rfl [.int .i64 n, .int .i64 c, .slice a0 N c0] _ (At.block SS.out.2.2.1).load Try.underlying92 rfl (by exact infoPath) ?_
      go_wp2_with fail
      refine (CMy.out _ (H.out.fresh BB.out)).mono ?_
      rintro e w5 ⟨rfl, b5⟩
      replace SS := Lib.hid (And.intro (SS.out.1.fresh b5) (And.intro (SS.out.2.1.fresh b5) (And.intro (SS.out.2.2.1.fresh b5) (SS.out.2.2.2.fresh b5))))
      replace BB := Lib.hid (BB.out.tr b5)
      clear b5
      go_wp2_with (with_reducible refine stopAt 33 ?_)
      refine Stop.go ?_
      refine wpList_load_agg rfl 24 (.tmp 7) rfl (⟨D, 0, none⟩) rfl (bvs L) _ (At.block SS.out.2.2.2).load Try.underlying24 rfl (by rw [bvs_length, HL.out.1]; exact infoHash) ?_
      go_wp2_with (with_reducible refine stopAt 34 ?_)
      refine Stop.go ?_
      refine wpList_build rfl _ _ rfl (.agg (bvs L).toArray) (by rw [hL0.out]; kernel_rfl) ?_
      go_wp2_with (with_reducible refine stopAt 35 ?_)
      refine Stop.go ?_
      refine wpList_bin rfl .eql 24 24 (.tmp 33) (.tmp 34) rfl (.bool true) (eqGuard_agg _ _ _ _ _ _ _ (by kernel_rfl)) (hash_eq_refl _ L HL.out.1) ?_
      go_wp2_with fail
      refine (CNm.out _ _).mono ?_
      rintro e w6 ⟨rfl, rfl⟩
      go_wp2_with fail
      refine (CKn.out _).mono ?_
      rintro e w7 ⟨rfl, b7⟩
      have B7 := Lib.hid (BB.out.tr b7)
      clear b7
      go_wp2
      go_ret
      exact ⟨rfl, B7.out⟩
    | true =>
      rw [hm] at CMy
      have CMy := Lib.hid CMy
      have hE0 : E = 0 := by rw [HLE.out.2, leadE, hm]; rfl
      subst hE0
      obtain ⟨a, b, rfl, rfl, m1, m2, m3⟩ := mayB_ok hm
      have CRl := fun w0 h0 => rleadP_any w0 x a b (.slice a0 N c0) hs hx h0 m1 m2 m3
      have hLr : leadB a b x hs = L := by rw [HLE.out.1, leadR, hm]; rfl
      rw [hLr] at CRl
      replace CRl := Lib.hid CRl
      clear hN h100 hx hm HLE m1 m2 m3 hLr
      go_enter Try.func9, Try.ntmps9
      go_wp2_with (with_reducible refine stopAt 10 ?_)
      refine Stop.go ?_
      obtain ⟨w1, h1, k1, b1, s1⟩ := alloc_cb w 24 (bvs r)
      obtain ⟨w2, h2, k2, b2, s2⟩ := alloc_cb w1 24 (bvs x)
      obtain ⟨w3, h3, k3, b3, s3⟩ := alloc_cb w2 92 [.int .i64 (a : Int), .int .i64 (b : Int), .slice a0 N c0]
      change wpList _ _ _ _ _ (((w.alloc (.cells (bvs r).toArray 24)).alloc (.cells (bvs x).toArray 24)).alloc (.cells [.int .i64 (a : Int), .int .i64 (b : Int), .slice a0 N c0].toArray 92))
      rw [← h1, ← h2, ← h3]
      rw [s1] at s2 k2
      rw [s2] at s3 k3
      have hc2 := k3.cell 2 _ rfl
      have BB := Lib.hid ((b1.tr b2).tr b3)
      have SS := Lib.hid (And.intro ((k1.fresh b2).fresh b3) (And.intro (k2.fresh b3) k3))
      clear h1 h2 h3 k1 k2 k3 b1 b2 b3 s1 s2 s3
      go_wp2_with (with_reducible refine stopAt 15 ?_)
      refine Stop.go ?_
      clear hc2
      refine wpList_load_agg rfl 24 (.tmp 4) rfl (⟨w.heap.size + 1, 0, none⟩) rfl (bvs x) _ (At.block SS.out.2.1).load Try.underlying24 rfl (by rw [bvs_length, HL.out.2.2]; exact infoHash) ?_
      go_wp2_with (with_reducible refine stopAt 16 ?_)
      refine Stop.go ?_
      refine wpList_load_agg rfl 92 (.tmp 5) rfl ⟨w.heap.size + 1 + 1, 0, none⟩ rfl [.int .i64 (a : Int), .int .i64 (b : Int), .slice a0 N c0] _ (At.block SS.out.2.2).load Try.underlying92 rfl (by exact infoPath) ?_
      go_wp2_with fail
      refine (CLd.out _ (H.out.fresh BB.out)).mono ?_
      rintro e w4 ⟨rfl, b4⟩
      replace SS := Lib.hid (And.intro (SS.out.1.fresh b4) (And.intro (SS.out.2.1.fresh b4) (SS.out.2.2.fresh b4)))
      replace BB := Lib.hid (BB.out.tr b4)
      clear b4
      go_wp2_with (with_reducible refine stopStore 24 ?_)
      refine Stop.go ?_
      refine wpList_store_var rfl 24 (.tmp 7) (.tmp 18) rfl w4.heap.size _ rfl _ (bvs L) rfl (heap_alloc_new w4 _) (by simp [HL.out.1]) (bvs_one _) (by rw [bvs_length, HL.out.1]; exact infoHash) ?_
      intro w5 kw5 ow5
      have bw5 : Below w4.heap.size w4 w5 := Below.only ((Below.refl _ w4).alloc (Nat.le_refl _) _) ow5 (Nat.le_refl _)
      replace kw5 : CB w5 24 w4.heap.size (bvs L) := kw5
      clear ow5
      obtain ⟨D, hD⟩ : ∃ D, D = w4.heap.size := ⟨_, rfl⟩
      rw [← hD] at kw5 ⊢
      have SS2 : Hid (CB w5.drew 24 w.heap.size (bvs r) ∧ CB w5.drew 24 (w.heap.size + 1) (bvs x) ∧ CB w5.drew 92 (w.heap.size + 1 + 1) [.int .i64 (a : Int), .int .i64 (b : Int), .slice a0 N c0] ∧ CB w5.drew 24 D (bvs L)) := Lib.hid ⟨SS.out.1.fresh bw5.drew, SS.out.2.1.fresh bw5.drew, SS.out.2.2.fresh bw5.drew, kw5⟩
      replace SS := SS2
      replace BB := Lib.hid (BB.out.tr bw5).drew
      clear SS2 bw5 kw5 hD
      go_wp2_with fail
      refine pl_start 10 rfl (fun w' => CB w' 24 w.heap.size (bvs r) ∧ CB w' 24 (w.heap.size + 1) (bvs x) ∧ CB w' 92 (w.heap.size + 1 + 1) [.int .i64 (a : Int), .int .i64 (b : Int), .slice a0 N c0] ∧ CB w' 24 D (bvs L)) (by kernel_rfl) ?_
      obtain ⟨u0, hu0⟩ : ∃ u0, u0 = w5.drew := ⟨_, rfl⟩
      rw [← hu0] at SS BB ⊢
      clear hu0
      refine pl_take (i := 0) 20 rfl rfl rfl (by kernel_rfl) (by kernel_rfl) (by kernel_rfl) (by simp [Act.put]) SS.out ?_
      apply Exists.intro
      refine And.intro (fun w' hS' => ?_) ?_
      · refine wpList_load_agg rfl 24 (.tmp 3) rfl (⟨w.heap.size, 0, none⟩) rfl (bvs r) _ ((At.block hS'.1).load) Try.underlying24 rfl (by rw [bvs_length, HL.out.2.1]; exact infoHash) ?_
        go_wp2
        exact ⟨trivial, rfl⟩
      refine pl_take (i := 1) 21 rfl rfl rfl (by kernel_rfl) (by kernel_rfl) (by kernel_rfl) (by simp [Act.put]) SS.out ?_
      apply Exists.intro
      refine And.intro (fun w' hS' => ?_) ?_
      · refine wpList_load_agg rfl 24 (.tmp 4) rfl (⟨w.heap.size + 1, 0, none⟩) rfl (bvs x) _ ((At.block hS'.2.1).load) Try.underlying24 rfl (by rw [bvs_length, HL.out.2.2]; exact infoHash) ?_
        go_wp2
        exact ⟨trivial, rfl⟩
      refine pl_take (i := 2) 22 rfl rfl rfl (by kernel_rfl) (by kernel_rfl) (by kernel_rfl) (by simp [Act.put]) SS.out ?_
      apply Exists.intro
      refine And.intro (fun w' hS' => ?_) ?_
      · refine wpList_load_agg rfl 92 (.tmp 5) rfl ⟨w.heap.size + 1 + 1, 0, none⟩ rfl [.int .i64 (a : Int), .int .i64 (b : Int), .slice a0 N c0] _ (At.block hS'.2.2.1).load Try.underlying92 rfl (by exact infoPath) ?_
        clear hS'
        go_wp2
        exact ⟨trivial, rfl⟩
      refine pl_take (i := 5) 25 rfl rfl rfl (by kernel_rfl) (by kernel_rfl) (by kernel_rfl) (by simp [Act.put]) SS.out ?_
      apply Exists.intro
      refine And.intro (fun w' hS' => ?_) ?_
      · refine wpList_load_agg rfl 24 (.tmp 3) rfl (⟨w.heap.size, 0, none⟩) rfl (bvs r) _ ((At.block hS'.1).load) Try.underlying24 rfl (by rw [bvs_length, HL.out.2.1]; exact infoHash) ?_
        go_wp2
        exact ⟨trivial, rfl⟩
      refine pl_take (i := 6) 26 rfl rfl rfl (by kernel_rfl) (by kernel_rfl) (by kernel_rfl) (by simp [Act.put]) SS.out ?_
      apply Exists.intro
      refine And.intro (fun w' hS' => ?_) ?_
      · refine wpList_load_agg rfl 24 (.tmp 4) rfl (⟨w.heap.size + 1, 0, none⟩) rfl (bvs x) _ ((At.block hS'.2.1).load) Try.underlying24 rfl (by rw [bvs_length, HL.out.2.2]; exact infoHash) ?_
        go_wp2
        exact ⟨trivial, rfl⟩
      refine pl_take (i := 7) 27 rfl rfl rfl (by kernel_rfl) (by kernel_rfl) (by kernel_rfl) (by simp [Act.put]) SS.out ?_
      apply Exists.intro
      refine And.intro (fun w' hS' => ?_) ?_
      · refine wpList_load_agg rfl 92 (.tmp 5) rfl ⟨w.heap.size + 1 + 1, 0, none⟩ rfl [.int .i64 (a : Int), .int .i64 (b : Int), .slice a0 N c0] _ (At.block hS'.2.2.1).load Try.underlying92 rfl (by exact infoPath) ?_
        clear hS'
        go_wp2
        exact ⟨trivial, rfl⟩
      refine pl_heavy (i := 3) rfl (by kernel_rfl) ?_
      go_wp2_with fail
      refine (CCk.out u0 (H.out.fresh BB.out)).mono ?_
      rintro e u1 ⟨rfl, b⟩
      replace SS := Lib.hid (And.intro (SS.out.1.fresh b) (And.intro (SS.out.2.1.fresh b) (And.intro (SS.out.2.2.1.fresh b) (SS.out.2.2.2.fresh b))))
      replace BB := Lib.hid (BB.out.tr b)
      clear b
      go_wp2
      refine And.intro SS.out ?_
      refine pl_heavy (i := 4) rfl (by kernel_rfl) ?_
      go_wp2_with fail
      refine (CNm.out u1 _).mono ?_
      rintro e u2 ⟨rfl, rfl⟩
      go_wp2
      refine And.intro SS.out ?_
      refine pl_heavy (i := 8) rfl (by kernel_rfl) ?_
      go_wp2_with fail
      refine (CRk.out u2 (H.out.fresh BB.out)).mono ?_
      rintro e u3 ⟨rfl, b⟩
      replace SS := Lib.hid (And.intro (SS.out.1.fresh b) (And.intro (SS.out.2.1.fresh b) (And.intro (SS.out.2.2.1.fresh b) (SS.out.2.2.2.fresh b))))
      replace BB := Lib.hid (BB.out.tr b)
      clear b
      go_wp2
      refine And.intro SS.out ?_
      refine pl_take (i := 9) 29 rfl rfl rfl (by kernel_rfl) (by kernel_rfl) (by kernel_rfl) (by simp [Act.put]) SS.out ?_
      apply Exists.intro
      refine And.intro (fun w' hS' => ?_) ?_
      · go_wp2
        exact ⟨trivial, rfl⟩
      refine pl_done (by kernel_rfl) ?_
      go_wp2_with (with_reducible refine stopAt 30 ?_)
      refine Stop.go ?_
      refine wpList_load_agg rfl 92 (.tmp 5) rfl ⟨w.heap.size + 1 + 1, 0, none⟩ rfl [.int .i64 (a : Int), .int .i64 (b : Int), .slice a0 N c0] _ (At.block SS.out.2.2.1).load Try.underlying92 rfl (by exact infoPath) ?_
      go_wp2_with fail
      refine (CMy.out _ (H.out.fresh BB.out)).mono ?_
      rintro e w5 ⟨rfl, b5⟩
      replace SS := Lib.hid (And.intro (SS.out.1.fresh b5) (And.intro (SS.out.2.1.fresh b5) (And.intro (SS.out.2.2.1.fresh b5) (SS.out.2.2.2.fresh b5))))
      replace BB := Lib.hid (BB.out.tr b5)
      clear b5
      go_wp2_with fail
      replace SS : Hid (CB w5.drew 24 w.heap.size (bvs r) ∧ CB w5.drew 24 (w.heap.size + 1) (bvs x) ∧ CB w5.drew 92 (w.heap.size + 1 + 1) [.int .i64 (a : Int), .int .i64 (b : Int), .slice a0 N c0] ∧ CB w5.drew 24 D (bvs L)) := SS
      replace BB := Lib.hid BB.out.drew
      refine pl_start 14 rfl (fun w' => CB w' 24 w.heap.size (bvs r) ∧ CB w' 24 (w.heap.size + 1) (bvs x) ∧ CB w' 92 (w.heap.size + 1 + 1) [.int .i64 (a : Int), .int .i64 (b : Int), .slice a0 N c0] ∧ CB w' 24 D (bvs L)) (by kernel_rfl) ?_
      obtain ⟨v0, hv0⟩ : ∃ v0, v0 = w5.drew := ⟨_, rfl⟩
      rw [← hv0] at SS BB ⊢
      clear hv0
      refine pl_take (i := 0) 44 rfl rfl rfl (by kernel_rfl) (by kernel_rfl) (by kernel_rfl) (by simp [Act.put]) SS.out ?_
      apply Exists.intro
      refine And.intro (fun w' hS' => ?_) ?_
      · refine wpList_load_agg rfl 24 (.tmp 7) rfl (⟨D, 0, none⟩) rfl (bvs L) _ ((At.block hS'.2.2.2).load) Try.underlying24 rfl (by rw [bvs_length, HL.out.1]; exact infoHash) ?_
        go_wp2
        exact ⟨trivial, rfl⟩
      refine pl_take (i := 1) 45 rfl rfl rfl (by kernel_rfl) (by kernel_rfl) (by kernel_rfl) (by simp [Act.put]) SS.out ?_
      apply Exists.intro
      refine And.intro (fun w' hS' => ?_) ?_
      · refine wpList_load_agg rfl 24 (.tmp 4) rfl (⟨w.heap.size + 1, 0, none⟩) rfl (bvs x) _ ((At.block hS'.2.1).load) Try.underlying24 rfl (by rw [bvs_length, HL.out.2.2]; exact infoHash) ?_
        go_wp2
        exact ⟨trivial, rfl⟩
      refine pl_take (i := 2) 46 rfl rfl rfl (by kernel_rfl) (by kernel_rfl) (by kernel_rfl) (by simp [Act.put]) SS.out ?_
      apply Exists.intro
      refine And.intro (fun w' hS' => ?_) ?_
      · refine wpList_load_agg rfl 92 (.tmp 5) rfl ⟨w.heap.size + 1 + 1, 0, none⟩ rfl [.int .i64 (a : Int), .int .i64 (b : Int), .slice a0 N c0] _ (At.block hS'.2.2.1).load Try.underlying92 rfl (by exact infoPath) ?_
        clear hS'
        go_wp2
        exact ⟨trivial, rfl⟩
      refine pl_heavy (i := 3) rfl (by kernel_rfl) ?_
      go_wp2_with fail
      refine (CRl.out v0 (H.out.fresh BB.out)).mono ?_
      rintro e v1 ⟨rfl, b'⟩
      replace SS := Lib.hid (And.intro (SS.out.1.fresh b') (And.intro (SS.out.2.1.fresh b') (And.intro (SS.out.2.2.1.fresh b') (SS.out.2.2.2.fresh b'))))
      replace BB := Lib.hid (BB.out.tr b')
      clear b'
      go_wp2
      refine And.intro SS.out ?_
      refine pl_take (i := 4) 48 rfl rfl rfl (by kernel_rfl) (by kernel_rfl) (by kernel_rfl) (by simp [Act.put]) SS.out ?_
      apply Exists.intro
      refine And.intro (fun w' hS' => ?_) ?_
      · refine wpList_bin rfl .eql 24 24 (.tmp 44) (.tmp 47) rfl (.bool true) (eqGuard_agg _ _ _ _ _ _ _ (by kernel_rfl)) (hash_eq_refl w' _ HL.out.1) ?_
        clear hS'
        go_wp2
        exact ⟨trivial, rfl⟩
      refine pl_take (i := 5) 49 rfl rfl rfl (by kernel_rfl) (by kernel_rfl) (by kernel_rfl) (by simp [Act.put]) SS.out ?_
      apply Exists.intro
      refine And.intro (fun w' hS' => ?_) ?_
      · go_wp2
        exact ⟨trivial, rfl⟩
      refine pl_take (i := 6) 50 rfl rfl rfl (by kernel_rfl) (by kernel_rfl) (by kernel_rfl) (by simp [Act.put]) SS.out ?_
      apply Exists.intro
      refine And.intro (fun w' hS' => ?_) ?_
      · go_wp2
        exact ⟨trivial, rfl⟩
      refine pl_heavy (i := 7) rfl (by kernel_rfl) ?_
      go_wp2_with fail
      refine (CNm.out v1 _).mono ?_
      rintro e v2 ⟨rfl, rfl⟩
      go_wp2
      refine And.intro SS.out ?_
      refine pl_take (i := 8) 52 rfl rfl rfl (by kernel_rfl) (by kernel_rfl) (by kernel_rfl) (by simp [Act.put]) SS.out ?_
      apply Exists.intro
      refine And.intro (fun w' hS' => ?_) ?_
      · go_wp2
        exact ⟨trivial, rfl⟩
      refine pl_take (i := 9) 53 rfl rfl rfl (by kernel_rfl) (by kernel_rfl) (by kernel_rfl) (by simp [Act.put]) SS.out ?_
      apply Exists.intro
      refine And.intro (fun w' hS' => ?_) ?_
      · go_wp2
        exact ⟨trivial, rfl⟩
      refine pl_take (i := 10) 54 rfl rfl rfl (by kernel_rfl) (by kernel_rfl) (by kernel_rfl) (by simp [Act.put]) SS.out ?_
      apply Exists.intro
      refine And.intro (fun w' hS' => ?_) ?_
      · go_wp2
        exact ⟨trivial, rfl⟩
      refine pl_heavy (i := 11) rfl (by kernel_rfl) ?_
      go_wp2_with fail
      refine (CKn.out v2).mono ?_
      rintro e v3 ⟨rfl, b'⟩
      replace SS := Lib.hid (And.intro (SS.out.1.fresh b') (And.intro (SS.out.2.1.fresh b') (And.intro (SS.out.2.2.1.fresh b') (SS.out.2.2.2.fresh b'))))
      replace BB := Lib.hid (BB.out.tr b')
      clear b'
      go_wp2
      refine And.intro SS.out ?_
      refine pl_take (i := 12) 56 rfl rfl rfl (by kernel_rfl) (by kernel_rfl) (by kernel_rfl) (by simp [Act.put]) SS.out ?_
      apply Exists.intro
      refine And.intro (fun w' hS' => ?_) ?_
      · go_wp2
        exact ⟨trivial, rfl⟩
      refine pl_heavy (i := 13) rfl (by kernel_rfl) ?_
      go_wp2
      refine And.intro SS.out ?_
      refine pl_done (by kernel_rfl) ?_
      go_wp2
      go_ret
      exact ⟨rfl, BB.out⟩

theorem ychecks_row (w : World) (r : Bs) (hr : r.length = 32) (x : Bs) (hx : x.length = 32) (n c : Int) (v : Value) (hs : List Bs) (h : Hs w v hs) :
    Calls Try.prog 9 #[.agg (bvs r).toArray, .agg (bvs x).toArray, .agg #[.int .i64 n, .int .i64 c, v]] w fun e w' => e = .returned (.bool true) ∧ Below w.heap.size w w' := ychecks_any w r x n c v hs hr hx h

end Go.Proofs.Ytbabjepblakboaa
