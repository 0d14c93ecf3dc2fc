/- MerkleRoots: the law's walk. -/
import Derived.Test.YtbabjepblakboaaYn
import Derived.Test.YtbabjepblakboaaYo
namespace Go.Proofs.Ytbabjepblakboaa
set_option linter.unusedVariables false
set_option linter.unusedSimpArgs false
open Go.RowKit Go.Lib

theorem rootB_length (l : List Bs) : (rootB l).length = 32 := topB_length _ _

theorem hash_ne_refl (w : World) (xs : List UInt8) (hx : xs.length = 32) :
    (binOp .neq 24 (.agg (bvs xs).toArray) (.agg (bvs xs).toArray)).run Try.prog w = .ok (.bool false) w := by
  rw [hash_ne w xs xs hx hx]
  simp

set_option maxRecDepth 100000 in
set_option maxHeartbeats 1000000 in
theorem yroots_great (w : World) (v : Value) (l : List Bs) (h : Hs w v l) (n c : Int) (hN : 70 < l.length) :
    Calls Try.prog 8 #[v, .int .i64 n, .int .i64 c] w fun e w' => e = .returned (.bool true) ∧ Below w.heap.size w w' := by
  obtain ⟨a0, c0, rfl⟩ := h.slice
  have i1 : (70 : Int) < (l.length : Int) := by omega
  clear h hN
  go_enter Try.func8, Try.ntmps8
  go_wp2_with fail
  refine (yknown_any _).mono ?_
  rintro e w1 ⟨rfl, b1⟩
  have B1 := Lib.hid b1
  clear b1
  go_wp2
  go_ret
  exact ⟨rfl, B1.out⟩

set_option maxRecDepth 100000 in
set_option maxHeartbeats 4000000 in
theorem yroots_both (w : World) (v : Value) (l : List Bs) (h : Hs w v l) (n : Nat) (c : Nat) (hN : l.length ≤ 70) (hn : n < l.length) (hc : n < c) (hm : c ≤ 1048576) :
    Calls Try.prog 8 #[v, .int .i64 (n : Int), .int .i64 (c : Int)] w fun e w' => e = .returned (.bool true) ∧ Below w.heap.size w w' := by
  obtain ⟨a0, c0, rfl⟩ := h.slice
  have CKn := Lib.hid (fun w0 => yknown_any w0)
  have CNm := Lib.hid (fun w0 k => ynum_any w0 k)
  have CR := fun w0 h0 => mroot_any w0 (.slice a0 l.length c0) l h0 (by omega)
  have CRr := fun w0 h0 => rroot_any w0 (.slice a0 l.length c0) l h0 (by omega)
  obtain ⟨R, hR⟩ : ∃ R, R = rootB l := ⟨_, rfl⟩
  have hRl : Hid (R.length = 32) := Lib.hid (by rw [hR]; exact rootB_length l)
  rw [← hR] at CR CRr
  have CP := fun w0 h0 => mpath_ok w0 n (.slice a0 l.length c0) l h0 hn (by omega)
  have CPr := fun w0 h0 => rpath_any 20 (by omega) w0 n (.slice a0 l.length c0) l h0 hn (by omega)
  obtain ⟨Pt, hPt⟩ : ∃ x, x = pathM knotB [] 20 n (l.map leafB) := ⟨_, rfl⟩
  rw [← hPt] at CP CPr
  have CS := fun w0 => msize_ok w0 n c hc hm
  have CSr := fun w0 => rsize_any 20 (by omega) w0 n c hc (by omega)
  obtain ⟨s, hs⟩ : ∃ s, s = sizeM 20 n c := ⟨_, rfl⟩
  rw [← hs] at CS CSr
  obtain ⟨N, hN'⟩ : ∃ N, N = l.length := ⟨_, rfl⟩
  rw [← hN'] at h hN CR CRr CP CPr hn ⊢
  have i70 : ¬ ((70 : Int) < (N : Int)) := by omega
  have j1 : ¬ ((n : Int) < 0) := by omega
  have j2 : ¬ ((N : Int) ≤ (n : Int)) := by omega
  have m1 : ¬ ((n : Int) < 0) := by omega
  have m2 : ¬ ((c : Int) ≤ (n : Int)) := by omega
  have m3 : ¬ ((1048576 : Int) < (c : Int)) := by omega
  replace CR := Lib.hid CR
  replace CRr := Lib.hid CRr
  replace CP := Lib.hid CP
  replace CS := Lib.hid CS
  replace CPr := Lib.hid CPr
  replace CSr := Lib.hid CSr
  have H := Lib.hid h
  clear h hN hN' hR hPt hn hs hc hm
  go_enter Try.func8, Try.ntmps8
  go_wp2_with fail
  refine (CP.out _ H.out).mono ?_
  rintro e w1 ⟨v1, rfl, p1, b1⟩
  obtain ⟨a1, k1, rfl⟩ := p1.slice
  obtain ⟨q1, hq1⟩ : ∃ q, q = Pt.length := ⟨_, rfl⟩
  rw [← hq1]
  have PV : Hid (Hs w1 (.slice a1 q1 k1) Pt) := Lib.hid (by rw [hq1]; exact p1)
  clear p1 hq1
  have BB := Lib.hid b1
  clear b1
  go_wp2_with (with_reducible refine stopStore 92 ?_)
  refine Stop.go ?_
  obtain ⟨G, hG⟩ : ∃ G, G = w1.heap.size := ⟨_, rfl⟩
  rw [← hG]
  refine wpList_store_var rfl 92 (.tmp 7) (.tmp 19) rfl G _ rfl _ [.int .i64 (n : Int), .int .i64 (N : Int), .slice a1 q1 k1] rfl (by rw [hG]; exact heap_alloc_new w1 _) (by simp) (by intro u hu; simp at hu; rcases hu with rfl | rfl | rfl <;> rfl) (by exact infoPath) ?_
  intro w2 k2 o2
  have b2 : Below w1.heap.size w1 w2 := Below.only ((Below.refl _ w1).alloc (Nat.le_refl _) _) o2 (by omega)
  have GG : Hid (CB w2 92 G [.int .i64 (n : Int), .int .i64 (N : Int), .slice a1 q1 k1]) := Lib.hid k2
  replace BB := Lib.hid (BB.out.tr b2)
  replace PV := Lib.hid (PV.out.fresh b2)
  clear k2 o2 b2 hG
  go_wp2_with fail
  refine (CS.out _).mono ?_
  rintro e w3 ⟨rfl, rfl⟩
  go_wp2_with fail
  refine (CR.out _ (H.out.fresh BB.out)).mono ?_
  rintro e w4 ⟨rfl, b⟩
  replace GG := Lib.hid (GG.out.fresh b)
  replace BB := Lib.hid (BB.out.tr b)
  replace PV := Lib.hid (PV.out.fresh b)
  clear b
  go_wp2_with fail
  refine (CRr.out _ (H.out.fresh BB.out)).mono ?_
  rintro e w5 ⟨rfl, b⟩
  replace GG := Lib.hid (GG.out.fresh b)
  replace BB := Lib.hid (BB.out.tr b)
  replace PV := Lib.hid (PV.out.fresh b)
  clear b
  go_wp2_with (with_reducible refine stopAt 31 ?_)
  refine Stop.go ?_
  refine wpList_bin rfl .neq 24 24 (.tmp 28) (.tmp 30) rfl (.bool false) (eqGuard_agg _ _ _ _ _ _ _ (by kernel_rfl)) (hash_ne_refl w5 R hRl.out) ?_
  go_wp2_with fail
  refine (CSr.out _).mono ?_
  rintro e w6 ⟨rfl, rfl⟩
  go_wp2_with fail
  refine (CNm.out _ _).mono ?_
  rintro e w6 ⟨rfl, rfl⟩
  go_wp2_with fail
  have SS : Hid (CB w6.drew 92 G [.int .i64 (n : Int), .int .i64 (N : Int), .slice a1 q1 k1]) := Lib.hid GG.out
  replace PV : Hid (Hs w6.drew (.slice a1 q1 k1) Pt) := Lib.hid (PV.out.fresh (Below.refl _ _).drew)
  replace BB := Lib.hid BB.out.drew
  refine pl_start 28 rfl (fun w' => CB w' 92 G [.int .i64 (n : Int), .int .i64 (N : Int), .slice a1 q1 k1]) (by kernel_rfl) ?_
  obtain ⟨w7, hw7⟩ : ∃ w7, w7 = w6.drew := ⟨_, rfl⟩
  rw [← hw7] at SS PV BB ⊢
  clear hw7 GG
  refine pl_take (i := 0) 90 rfl rfl rfl (by kernel_rfl) (by kernel_rfl) (by kernel_rfl) (by simp [Act.put]) SS.out ?_
  apply Exists.intro
  refine And.intro (fun w' hS' => ?_) ?_
  · go_wp2
    exact ⟨trivial, rfl⟩
  refine pl_heavy (i := 1) rfl (by kernel_rfl) ?_
  go_wp2_with fail
  refine (CNm.out _ _).mono ?_
  rintro e w8 ⟨rfl, rfl⟩
  go_wp2
  refine And.intro SS.out ?_
  refine pl_take (i := 2) 92 rfl rfl rfl (by kernel_rfl) (by kernel_rfl) (by kernel_rfl) (by simp [Act.put]) SS.out ?_
  apply Exists.intro
  refine And.intro (fun w' hS' => ?_) ?_
  · have hc0 := hS'.cell 0 _ rfl
    have hc1 := hS'.cell 1 _ rfl
    have hc2 := hS'.cell 2 _ rfl
    clear hS'
    go_wp2
    exact ⟨trivial, rfl⟩
  refine pl_take (i := 3) 93 rfl rfl rfl (by kernel_rfl) (by kernel_rfl) (by kernel_rfl) (by simp [Act.put]) SS.out ?_
  apply Exists.intro
  refine And.intro (fun w' hS' => ?_) ?_
  · have hc0 := hS'.cell 0 _ rfl
    have hc1 := hS'.cell 1 _ rfl
    have hc2 := hS'.cell 2 _ rfl
    clear hS'
    go_wp2
    exact ⟨trivial, rfl⟩
  refine pl_take (i := 4) 94 rfl rfl rfl (by kernel_rfl) (by kernel_rfl) (by kernel_rfl) (by simp [Act.put]) SS.out ?_
  apply Exists.intro
  refine And.intro (fun w' hS' => ?_) ?_
  · have hc0 := hS'.cell 0 _ rfl
    have hc1 := hS'.cell 1 _ rfl
    have hc2 := hS'.cell 2 _ rfl
    clear hS'
    go_wp2
    exact ⟨trivial, rfl⟩
  refine pl_take (i := 5) 95 rfl rfl rfl (by kernel_rfl) (by kernel_rfl) (by kernel_rfl) (by simp [Act.put]) SS.out ?_
  apply Exists.intro
  refine And.intro (fun w' hS' => ?_) ?_
  · have hc0 := hS'.cell 0 _ rfl
    have hc1 := hS'.cell 1 _ rfl
    have hc2 := hS'.cell 2 _ rfl
    clear hS'
    go_wp2
    exact ⟨trivial, rfl⟩
  refine pl_take (i := 6) 96 rfl rfl rfl (by kernel_rfl) (by kernel_rfl) (by kernel_rfl) (by simp [Act.put]) SS.out ?_
  apply Exists.intro
  refine And.intro (fun w' hS' => ?_) ?_
  · have hc0 := hS'.cell 0 _ rfl
    have hc1 := hS'.cell 1 _ rfl
    have hc2 := hS'.cell 2 _ rfl
    clear hS'
    go_wp2
    exact ⟨trivial, rfl⟩
  refine pl_take (i := 7) 97 rfl rfl rfl (by kernel_rfl) (by kernel_rfl) (by kernel_rfl) (by simp [Act.put]) SS.out ?_
  apply Exists.intro
  refine And.intro (fun w' hS' => ?_) ?_
  · have hc0 := hS'.cell 0 _ rfl
    have hc1 := hS'.cell 1 _ rfl
    have hc2 := hS'.cell 2 _ rfl
    clear hS'
    go_wp2
    exact ⟨trivial, rfl⟩
  refine pl_take (i := 8) 98 rfl rfl rfl (by kernel_rfl) (by kernel_rfl) (by kernel_rfl) (by simp [Act.put]) SS.out ?_
  apply Exists.intro
  refine And.intro (fun w' hS' => ?_) ?_
  · have hc0 := hS'.cell 0 _ rfl
    have hc1 := hS'.cell 1 _ rfl
    have hc2 := hS'.cell 2 _ rfl
    clear hS'
    go_wp2
    exact ⟨trivial, rfl⟩
  refine pl_take (i := 9) 99 rfl rfl rfl (by kernel_rfl) (by kernel_rfl) (by kernel_rfl) (by simp [Act.put]) SS.out ?_
  apply Exists.intro
  refine And.intro (fun w' hS' => ?_) ?_
  · have hc0 := hS'.cell 0 _ rfl
    have hc1 := hS'.cell 1 _ rfl
    have hc2 := hS'.cell 2 _ rfl
    clear hS'
    go_wp2
    exact ⟨trivial, rfl⟩
  refine pl_take (i := 10) 100 rfl rfl rfl (by kernel_rfl) (by kernel_rfl) (by kernel_rfl) (by simp [Act.put]) SS.out ?_
  apply Exists.intro
  refine And.intro (fun w' hS' => ?_) ?_
  · have hc0 := hS'.cell 0 _ rfl
    have hc1 := hS'.cell 1 _ rfl
    have hc2 := hS'.cell 2 _ rfl
    clear hS'
    go_wp2
    exact ⟨trivial, rfl⟩
  refine pl_take (i := 11) 101 rfl rfl rfl (by kernel_rfl) (by kernel_rfl) (by kernel_rfl) (by simp [Act.put]) SS.out ?_
  apply Exists.intro
  refine And.intro (fun w' hS' => ?_) ?_
  · have hc0 := hS'.cell 0 _ rfl
    have hc1 := hS'.cell 1 _ rfl
    have hc2 := hS'.cell 2 _ rfl
    clear hS'
    go_wp2
    exact ⟨trivial, rfl⟩
  refine pl_take (i := 12) 102 rfl rfl rfl (by kernel_rfl) (by kernel_rfl) (by kernel_rfl) (by simp [Act.put]) SS.out ?_
  apply Exists.intro
  refine And.intro (fun w' hS' => ?_) ?_
  · have hc0 := hS'.cell 0 _ rfl
    have hc1 := hS'.cell 1 _ rfl
    have hc2 := hS'.cell 2 _ rfl
    clear hS'
    go_wp2
    exact ⟨trivial, rfl⟩
  refine pl_take (i := 13) 103 rfl rfl rfl (by kernel_rfl) (by kernel_rfl) (by kernel_rfl) (by simp [Act.put]) SS.out ?_
  apply Exists.intro
  refine And.intro (fun w' hS' => ?_) ?_
  · have hc0 := hS'.cell 0 _ rfl
    have hc1 := hS'.cell 1 _ rfl
    have hc2 := hS'.cell 2 _ rfl
    clear hS'
    go_wp2
    exact ⟨trivial, rfl⟩
  refine pl_take (i := 14) 104 rfl rfl rfl (by kernel_rfl) (by kernel_rfl) (by kernel_rfl) (by simp [Act.put]) SS.out ?_
  apply Exists.intro
  refine And.intro (fun w' hS' => ?_) ?_
  · have hc0 := hS'.cell 0 _ rfl
    have hc1 := hS'.cell 1 _ rfl
    have hc2 := hS'.cell 2 _ rfl
    clear hS'
    go_wp2
    exact ⟨trivial, rfl⟩
  refine pl_take (i := 15) 105 rfl rfl rfl (by kernel_rfl) (by kernel_rfl) (by kernel_rfl) (by simp [Act.put]) SS.out ?_
  apply Exists.intro
  refine And.intro (fun w' hS' => ?_) ?_
  · have hc0 := hS'.cell 0 _ rfl
    have hc1 := hS'.cell 1 _ rfl
    have hc2 := hS'.cell 2 _ rfl
    clear hS'
    go_wp2
    exact ⟨trivial, rfl⟩
  refine pl_take (i := 16) 106 rfl rfl rfl (by kernel_rfl) (by kernel_rfl) (by kernel_rfl) (by simp [Act.put]) SS.out ?_
  apply Exists.intro
  refine And.intro (fun w' hS' => ?_) ?_
  · have hc0 := hS'.cell 0 _ rfl
    have hc1 := hS'.cell 1 _ rfl
    have hc2 := hS'.cell 2 _ rfl
    clear hS'
    go_wp2
    exact ⟨trivial, rfl⟩
  refine pl_take (i := 17) 107 rfl rfl rfl (by kernel_rfl) (by kernel_rfl) (by kernel_rfl) (by simp [Act.put]) SS.out ?_
  apply Exists.intro
  refine And.intro (fun w' hS' => ?_) ?_
  · have hc0 := hS'.cell 0 _ rfl
    have hc1 := hS'.cell 1 _ rfl
    have hc2 := hS'.cell 2 _ rfl
    clear hS'
    go_wp2
    exact ⟨trivial, rfl⟩
  refine pl_take (i := 18) 108 rfl rfl rfl (by kernel_rfl) (by kernel_rfl) (by kernel_rfl) (by simp [Act.put]) SS.out ?_
  apply Exists.intro
  refine And.intro (fun w' hS' => ?_) ?_
  · have hc0 := hS'.cell 0 _ rfl
    have hc1 := hS'.cell 1 _ rfl
    have hc2 := hS'.cell 2 _ rfl
    clear hS'
    go_wp2
    exact ⟨trivial, rfl⟩
  refine pl_take (i := 19) 109 rfl rfl rfl (by kernel_rfl) (by kernel_rfl) (by kernel_rfl) (by simp [Act.put]) SS.out ?_
  apply Exists.intro
  refine And.intro (fun w' hS' => ?_) ?_
  · have hc0 := hS'.cell 0 _ rfl
    have hc1 := hS'.cell 1 _ rfl
    have hc2 := hS'.cell 2 _ rfl
    clear hS'
    go_wp2
    exact ⟨trivial, rfl⟩
  refine pl_take (i := 20) 110 rfl rfl rfl (by kernel_rfl) (by kernel_rfl) (by kernel_rfl) (by simp [Act.put]) SS.out ?_
  apply Exists.intro
  refine And.intro (fun w' hS' => ?_) ?_
  · have hc0 := hS'.cell 0 _ rfl
    have hc1 := hS'.cell 1 _ rfl
    have hc2 := hS'.cell 2 _ rfl
    clear hS'
    go_wp2
    exact ⟨trivial, rfl⟩
  refine pl_heavy (i := 21) rfl (by kernel_rfl) ?_
  go_wp2_with fail
  refine (CPr.out _ (H.out.fresh BB.out)).mono ?_
  rintro e w9 ⟨v9, rfl, o9, b⟩
  have RV := Lib.hid o9.hs
  obtain ⟨a9, k9, rfl⟩ := o9.slice
  replace SS := Lib.hid (SS.out.fresh b)
  replace BB := Lib.hid (BB.out.tr b)
  replace PV := Lib.hid (PV.out.fresh b)
  clear b o9
  go_wp2
  refine And.intro SS.out ?_
  refine pl_heavy (i := 22) rfl (by kernel_rfl) ?_
  go_wp2_with fail
  refine (ysame_any w9 _ _ Pt Pt PV.out RV.out).mono ?_
  rintro e w10 ⟨rfl, b⟩
  replace SS := Lib.hid (SS.out.fresh b)
  replace BB := Lib.hid (BB.out.tr b)
  clear b
  go_wp2
  refine And.intro SS.out ?_
  refine pl_take (i := 23) 113 rfl rfl rfl (by kernel_rfl) (by kernel_rfl) (by kernel_rfl) (by simp [Act.put]) SS.out ?_
  apply Exists.intro
  refine And.intro (fun w' hS' => ?_) ?_
  · go_wp2
    exact ⟨trivial, rfl⟩
  refine pl_take (i := 24) 114 rfl rfl rfl (by kernel_rfl) (by kernel_rfl) (by kernel_rfl) (by simp [Act.put]) SS.out ?_
  apply Exists.intro
  refine And.intro (fun w' hS' => ?_) ?_
  · go_wp2
    exact ⟨trivial, rfl⟩
  refine pl_heavy (i := 25) rfl (by kernel_rfl) ?_
  go_wp2_with fail
  refine (CKn.out _).mono ?_
  rintro e w11 ⟨rfl, b⟩
  replace SS := Lib.hid (SS.out.fresh b)
  replace BB := Lib.hid (BB.out.tr b)
  clear b
  go_wp2
  refine And.intro SS.out ?_
  refine pl_take (i := 26) 116 rfl rfl rfl (by kernel_rfl) (by kernel_rfl) (by kernel_rfl) (by simp [Act.put]) SS.out ?_
  apply Exists.intro
  refine And.intro (fun w' hS' => ?_) ?_
  · go_wp2
    exact ⟨trivial, rfl⟩
  refine pl_heavy (i := 27) rfl (by kernel_rfl) ?_
  go_wp2
  refine And.intro SS.out ?_
  refine pl_done (by kernel_rfl) ?_
  go_wp2
  go_ret
  exact ⟨rfl, BB.out⟩

set_option maxRecDepth 100000 in
set_option maxHeartbeats 4000000 in
theorem yroots_place (w : World) (v : Value) (l : List Bs) (h : Hs w v l) (n : Nat) (c : Int) (hN : l.length ≤ 70) (hn : n < l.length) (hc : (n : Int) < 0 ∨ c ≤ (n : Int) ∨ 1048576 < c) :
    Calls Try.prog 8 #[v, .int .i64 (n : Int), .int .i64 c] w fun e w' => e = .returned (.bool true) ∧ Below w.heap.size w w' := by
  obtain ⟨a0, c0, rfl⟩ := h.slice
  have CKn := Lib.hid (fun w0 => yknown_any w0)
  have CNm := Lib.hid (fun w0 k => ynum_any w0 k)
  have CR := fun w0 h0 => mroot_any w0 (.slice a0 l.length c0) l h0 (by omega)
  have CRr := fun w0 h0 => rroot_any w0 (.slice a0 l.length c0) l h0 (by omega)
  obtain ⟨R, hR⟩ : ∃ R, R = rootB l := ⟨_, rfl⟩
  have hRl : Hid (R.length = 32) := Lib.hid (by rw [hR]; exact rootB_length l)
  rw [← hR] at CR CRr
  have CP := fun w0 h0 => mpath_ok w0 n (.slice a0 l.length c0) l h0 hn (by omega)
  have CPr := fun w0 h0 => rpath_any 20 (by omega) w0 n (.slice a0 l.length c0) l h0 hn (by omega)
  obtain ⟨Pt, hPt⟩ : ∃ x, x = pathM knotB [] 20 n (l.map leafB) := ⟨_, rfl⟩
  rw [← hPt] at CP CPr
  have CS := fun w0 => msize_no w0 (n : Int) c hc
  obtain ⟨N, hN'⟩ : ∃ N, N = l.length := ⟨_, rfl⟩
  rw [← hN'] at h hN CR CRr CP CPr hn ⊢
  have i70 : ¬ ((70 : Int) < (N : Int)) := by omega
  have j1 : ¬ ((n : Int) < 0) := by omega
  have j2 : ¬ ((N : Int) ≤ (n : Int)) := by omega
  replace CR := Lib.hid CR
  replace CRr := Lib.hid CRr
  replace CP := Lib.hid CP
  replace CS := Lib.hid CS
  replace CPr := Lib.hid CPr
  have H := Lib.hid h
  clear h hN hN' hR hPt hn
  by_cases q2 : c ≤ (n : Int)
  · clear hc
    go_enter Try.func8, Try.ntmps8
    go_wp2_with fail
    refine (CP.out _ H.out).mono ?_
    rintro e w1 ⟨v1, rfl, p1, b1⟩
    obtain ⟨a1, k1, rfl⟩ := p1.slice
    obtain ⟨q1, hq1⟩ : ∃ q, q = Pt.length := ⟨_, rfl⟩
    rw [← hq1]
    have PV : Hid (Hs w1 (.slice a1 q1 k1) Pt) := Lib.hid (by rw [hq1]; exact p1)
    clear p1 hq1
    have BB := Lib.hid b1
    clear b1
    go_wp2_with (with_reducible refine stopStore 92 ?_)
    refine Stop.go ?_
    obtain ⟨G, hG⟩ : ∃ G, G = w1.heap.size := ⟨_, rfl⟩
    rw [← hG]
    refine wpList_store_var rfl 92 (.tmp 7) (.tmp 19) rfl G _ rfl _ [.int .i64 (n : Int), .int .i64 (N : Int), .slice a1 q1 k1] rfl (by rw [hG]; exact heap_alloc_new w1 _) (by simp) (by intro u hu; simp at hu; rcases hu with rfl | rfl | rfl <;> rfl) (by exact infoPath) ?_
    intro w2 k2 o2
    have b2 : Below w1.heap.size w1 w2 := Below.only ((Below.refl _ w1).alloc (Nat.le_refl _) _) o2 (by omega)
    have GG : Hid (CB w2 92 G [.int .i64 (n : Int), .int .i64 (N : Int), .slice a1 q1 k1]) := Lib.hid k2
    replace BB := Lib.hid (BB.out.tr b2)
    replace PV := Lib.hid (PV.out.fresh b2)
    clear k2 o2 b2 hG
    go_wp2_with fail
    refine (CS.out _).mono ?_
    rintro e w3 ⟨rfl, rfl⟩
    go_wp2_with fail
    refine (CR.out _ (H.out.fresh BB.out)).mono ?_
    rintro e w4 ⟨rfl, b⟩
    replace GG := Lib.hid (GG.out.fresh b)
    replace BB := Lib.hid (BB.out.tr b)
    replace PV := Lib.hid (PV.out.fresh b)
    clear b
    go_wp2_with fail
    refine (CRr.out _ (H.out.fresh BB.out)).mono ?_
    rintro e w5 ⟨rfl, b⟩
    replace GG := Lib.hid (GG.out.fresh b)
    replace BB := Lib.hid (BB.out.tr b)
    replace PV := Lib.hid (PV.out.fresh b)
    clear b
    go_wp2_with (with_reducible refine stopAt 31 ?_)
    refine Stop.go ?_
    refine wpList_bin rfl .neq 24 24 (.tmp 28) (.tmp 30) rfl (.bool false) (eqGuard_agg _ _ _ _ _ _ _ (by kernel_rfl)) (hash_ne_refl w5 R hRl.out) ?_
    go_wp2_with fail
    refine (CNm.out _ _).mono ?_
    rintro e w6 ⟨rfl, rfl⟩
    go_wp2_with fail
    have SS : Hid (CB w6.drew 92 G [.int .i64 (n : Int), .int .i64 (N : Int), .slice a1 q1 k1]) := Lib.hid GG.out
    replace PV : Hid (Hs w6.drew (.slice a1 q1 k1) Pt) := Lib.hid (PV.out.fresh (Below.refl _ _).drew)
    replace BB := Lib.hid BB.out.drew
    refine pl_start 28 rfl (fun w' => CB w' 92 G [.int .i64 (n : Int), .int .i64 (N : Int), .slice a1 q1 k1]) (by kernel_rfl) ?_
    obtain ⟨w7, hw7⟩ : ∃ w7, w7 = w6.drew := ⟨_, rfl⟩
    rw [← hw7] at SS PV BB ⊢
    clear hw7 GG
    refine pl_take (i := 0) 90 rfl rfl rfl (by kernel_rfl) (by kernel_rfl) (by kernel_rfl) (by simp [Act.put]) SS.out ?_
    apply Exists.intro
    refine And.intro (fun w' hS' => ?_) ?_
    · go_wp2
      exact ⟨trivial, rfl⟩
    refine pl_heavy (i := 1) rfl (by kernel_rfl) ?_
    go_wp2_with fail
    refine (CNm.out _ _).mono ?_
    rintro e w8 ⟨rfl, rfl⟩
    go_wp2
    refine And.intro SS.out ?_
    refine pl_take (i := 2) 92 rfl rfl rfl (by kernel_rfl) (by kernel_rfl) (by kernel_rfl) (by simp [Act.put]) SS.out ?_
    apply Exists.intro
    refine And.intro (fun w' hS' => ?_) ?_
    · have hc0 := hS'.cell 0 _ rfl
      have hc1 := hS'.cell 1 _ rfl
      have hc2 := hS'.cell 2 _ rfl
      clear hS'
      go_wp2
      exact ⟨trivial, rfl⟩
    refine pl_take (i := 3) 93 rfl rfl rfl (by kernel_rfl) (by kernel_rfl) (by kernel_rfl) (by simp [Act.put]) SS.out ?_
    apply Exists.intro
    refine And.intro (fun w' hS' => ?_) ?_
    · have hc0 := hS'.cell 0 _ rfl
      have hc1 := hS'.cell 1 _ rfl
      have hc2 := hS'.cell 2 _ rfl
      clear hS'
      go_wp2
      exact ⟨trivial, rfl⟩
    refine pl_take (i := 4) 94 rfl rfl rfl (by kernel_rfl) (by kernel_rfl) (by kernel_rfl) (by simp [Act.put]) SS.out ?_
    apply Exists.intro
    refine And.intro (fun w' hS' => ?_) ?_
    · have hc0 := hS'.cell 0 _ rfl
      have hc1 := hS'.cell 1 _ rfl
      have hc2 := hS'.cell 2 _ rfl
      clear hS'
      go_wp2
      exact ⟨trivial, rfl⟩
    refine pl_take (i := 5) 95 rfl rfl rfl (by kernel_rfl) (by kernel_rfl) (by kernel_rfl) (by simp [Act.put]) SS.out ?_
    apply Exists.intro
    refine And.intro (fun w' hS' => ?_) ?_
    · have hc0 := hS'.cell 0 _ rfl
      have hc1 := hS'.cell 1 _ rfl
      have hc2 := hS'.cell 2 _ rfl
      clear hS'
      go_wp2
      exact ⟨trivial, rfl⟩
    refine pl_take (i := 6) 96 rfl rfl rfl (by kernel_rfl) (by kernel_rfl) (by kernel_rfl) (by simp [Act.put]) SS.out ?_
    apply Exists.intro
    refine And.intro (fun w' hS' => ?_) ?_
    · have hc0 := hS'.cell 0 _ rfl
      have hc1 := hS'.cell 1 _ rfl
      have hc2 := hS'.cell 2 _ rfl
      clear hS'
      go_wp2
      exact ⟨trivial, rfl⟩
    refine pl_take (i := 7) 97 rfl rfl rfl (by kernel_rfl) (by kernel_rfl) (by kernel_rfl) (by simp [Act.put]) SS.out ?_
    apply Exists.intro
    refine And.intro (fun w' hS' => ?_) ?_
    · have hc0 := hS'.cell 0 _ rfl
      have hc1 := hS'.cell 1 _ rfl
      have hc2 := hS'.cell 2 _ rfl
      clear hS'
      go_wp2
      exact ⟨trivial, rfl⟩
    refine pl_take (i := 8) 98 rfl rfl rfl (by kernel_rfl) (by kernel_rfl) (by kernel_rfl) (by simp [Act.put]) SS.out ?_
    apply Exists.intro
    refine And.intro (fun w' hS' => ?_) ?_
    · have hc0 := hS'.cell 0 _ rfl
      have hc1 := hS'.cell 1 _ rfl
      have hc2 := hS'.cell 2 _ rfl
      clear hS'
      go_wp2
      exact ⟨trivial, rfl⟩
    refine pl_take (i := 9) 99 rfl rfl rfl (by kernel_rfl) (by kernel_rfl) (by kernel_rfl) (by simp [Act.put]) SS.out ?_
    apply Exists.intro
    refine And.intro (fun w' hS' => ?_) ?_
    · have hc0 := hS'.cell 0 _ rfl
      have hc1 := hS'.cell 1 _ rfl
      have hc2 := hS'.cell 2 _ rfl
      clear hS'
      go_wp2
      exact ⟨trivial, rfl⟩
    refine pl_take (i := 10) 100 rfl rfl rfl (by kernel_rfl) (by kernel_rfl) (by kernel_rfl) (by simp [Act.put]) SS.out ?_
    apply Exists.intro
    refine And.intro (fun w' hS' => ?_) ?_
    · have hc0 := hS'.cell 0 _ rfl
      have hc1 := hS'.cell 1 _ rfl
      have hc2 := hS'.cell 2 _ rfl
      clear hS'
      go_wp2
      exact ⟨trivial, rfl⟩
    refine pl_take (i := 11) 101 rfl rfl rfl (by kernel_rfl) (by kernel_rfl) (by kernel_rfl) (by simp [Act.put]) SS.out ?_
    apply Exists.intro
    refine And.intro (fun w' hS' => ?_) ?_
    · have hc0 := hS'.cell 0 _ rfl
      have hc1 := hS'.cell 1 _ rfl
      have hc2 := hS'.cell 2 _ rfl
      clear hS'
      go_wp2
      exact ⟨trivial, rfl⟩
    refine pl_take (i := 12) 102 rfl rfl rfl (by kernel_rfl) (by kernel_rfl) (by kernel_rfl) (by simp [Act.put]) SS.out ?_
    apply Exists.intro
    refine And.intro (fun w' hS' => ?_) ?_
    · have hc0 := hS'.cell 0 _ rfl
      have hc1 := hS'.cell 1 _ rfl
      have hc2 := hS'.cell 2 _ rfl
      clear hS'
      go_wp2
      exact ⟨trivial, rfl⟩
    refine pl_take (i := 13) 103 rfl rfl rfl (by kernel_rfl) (by kernel_rfl) (by kernel_rfl) (by simp [Act.put]) SS.out ?_
    apply Exists.intro
    refine And.intro (fun w' hS' => ?_) ?_
    · have hc0 := hS'.cell 0 _ rfl
      have hc1 := hS'.cell 1 _ rfl
      have hc2 := hS'.cell 2 _ rfl
      clear hS'
      go_wp2
      exact ⟨trivial, rfl⟩
    refine pl_take (i := 14) 104 rfl rfl rfl (by kernel_rfl) (by kernel_rfl) (by kernel_rfl) (by simp [Act.put]) SS.out ?_
    apply Exists.intro
    refine And.intro (fun w' hS' => ?_) ?_
    · have hc0 := hS'.cell 0 _ rfl
      have hc1 := hS'.cell 1 _ rfl
      have hc2 := hS'.cell 2 _ rfl
      clear hS'
      go_wp2
      exact ⟨trivial, rfl⟩
    refine pl_take (i := 15) 105 rfl rfl rfl (by kernel_rfl) (by kernel_rfl) (by kernel_rfl) (by simp [Act.put]) SS.out ?_
    apply Exists.intro
    refine And.intro (fun w' hS' => ?_) ?_
    · have hc0 := hS'.cell 0 _ rfl
      have hc1 := hS'.cell 1 _ rfl
      have hc2 := hS'.cell 2 _ rfl
      clear hS'
      go_wp2
      exact ⟨trivial, rfl⟩
    refine pl_take (i := 16) 106 rfl rfl rfl (by kernel_rfl) (by kernel_rfl) (by kernel_rfl) (by simp [Act.put]) SS.out ?_
    apply Exists.intro
    refine And.intro (fun w' hS' => ?_) ?_
    · have hc0 := hS'.cell 0 _ rfl
      have hc1 := hS'.cell 1 _ rfl
      have hc2 := hS'.cell 2 _ rfl
      clear hS'
      go_wp2
      exact ⟨trivial, rfl⟩
    refine pl_take (i := 17) 107 rfl rfl rfl (by kernel_rfl) (by kernel_rfl) (by kernel_rfl) (by simp [Act.put]) SS.out ?_
    apply Exists.intro
    refine And.intro (fun w' hS' => ?_) ?_
    · have hc0 := hS'.cell 0 _ rfl
      have hc1 := hS'.cell 1 _ rfl
      have hc2 := hS'.cell 2 _ rfl
      clear hS'
      go_wp2
      exact ⟨trivial, rfl⟩
    refine pl_take (i := 18) 108 rfl rfl rfl (by kernel_rfl) (by kernel_rfl) (by kernel_rfl) (by simp [Act.put]) SS.out ?_
    apply Exists.intro
    refine And.intro (fun w' hS' => ?_) ?_
    · have hc0 := hS'.cell 0 _ rfl
      have hc1 := hS'.cell 1 _ rfl
      have hc2 := hS'.cell 2 _ rfl
      clear hS'
      go_wp2
      exact ⟨trivial, rfl⟩
    refine pl_take (i := 19) 109 rfl rfl rfl (by kernel_rfl) (by kernel_rfl) (by kernel_rfl) (by simp [Act.put]) SS.out ?_
    apply Exists.intro
    refine And.intro (fun w' hS' => ?_) ?_
    · have hc0 := hS'.cell 0 _ rfl
      have hc1 := hS'.cell 1 _ rfl
      have hc2 := hS'.cell 2 _ rfl
      clear hS'
      go_wp2
      exact ⟨trivial, rfl⟩
    refine pl_take (i := 20) 110 rfl rfl rfl (by kernel_rfl) (by kernel_rfl) (by kernel_rfl) (by simp [Act.put]) SS.out ?_
    apply Exists.intro
    refine And.intro (fun w' hS' => ?_) ?_
    · have hc0 := hS'.cell 0 _ rfl
      have hc1 := hS'.cell 1 _ rfl
      have hc2 := hS'.cell 2 _ rfl
      clear hS'
      go_wp2
      exact ⟨trivial, rfl⟩
    refine pl_heavy (i := 21) rfl (by kernel_rfl) ?_
    go_wp2_with fail
    refine (CPr.out _ (H.out.fresh BB.out)).mono ?_
    rintro e w9 ⟨v9, rfl, o9, b⟩
    have RV := Lib.hid o9.hs
    obtain ⟨a9, k9, rfl⟩ := o9.slice
    replace SS := Lib.hid (SS.out.fresh b)
    replace BB := Lib.hid (BB.out.tr b)
    replace PV := Lib.hid (PV.out.fresh b)
    clear b o9
    go_wp2
    refine And.intro SS.out ?_
    refine pl_heavy (i := 22) rfl (by kernel_rfl) ?_
    go_wp2_with fail
    refine (ysame_any w9 _ _ Pt Pt PV.out RV.out).mono ?_
    rintro e w10 ⟨rfl, b⟩
    replace SS := Lib.hid (SS.out.fresh b)
    replace BB := Lib.hid (BB.out.tr b)
    clear b
    go_wp2
    refine And.intro SS.out ?_
    refine pl_take (i := 23) 113 rfl rfl rfl (by kernel_rfl) (by kernel_rfl) (by kernel_rfl) (by simp [Act.put]) SS.out ?_
    apply Exists.intro
    refine And.intro (fun w' hS' => ?_) ?_
    · go_wp2
      exact ⟨trivial, rfl⟩
    refine pl_take (i := 24) 114 rfl rfl rfl (by kernel_rfl) (by kernel_rfl) (by kernel_rfl) (by simp [Act.put]) SS.out ?_
    apply Exists.intro
    refine And.intro (fun w' hS' => ?_) ?_
    · go_wp2
      exact ⟨trivial, rfl⟩
    refine pl_heavy (i := 25) rfl (by kernel_rfl) ?_
    go_wp2_with fail
    refine (CKn.out _).mono ?_
    rintro e w11 ⟨rfl, b⟩
    replace SS := Lib.hid (SS.out.fresh b)
    replace BB := Lib.hid (BB.out.tr b)
    clear b
    go_wp2
    refine And.intro SS.out ?_
    refine pl_take (i := 26) 116 rfl rfl rfl (by kernel_rfl) (by kernel_rfl) (by kernel_rfl) (by simp [Act.put]) SS.out ?_
    apply Exists.intro
    refine And.intro (fun w' hS' => ?_) ?_
    · go_wp2
      exact ⟨trivial, rfl⟩
    refine pl_heavy (i := 27) rfl (by kernel_rfl) ?_
    go_wp2
    refine And.intro SS.out ?_
    refine pl_done (by kernel_rfl) ?_
    go_wp2
    go_ret
    exact ⟨rfl, BB.out⟩
  · have q3 : 1048576 < c := by omega
    clear hc
    go_enter Try.func8, Try.ntmps8
    go_wp2_with fail
    refine (CP.out _ H.out).mono ?_
    rintro e w1 ⟨v1, rfl, p1, b1⟩
    obtain ⟨a1, k1, rfl⟩ := p1.slice
    obtain ⟨q1, hq1⟩ : ∃ q, q = Pt.length := ⟨_, rfl⟩
    rw [← hq1]
    have PV : Hid (Hs w1 (.slice a1 q1 k1) Pt) := Lib.hid (by rw [hq1]; exact p1)
    clear p1 hq1
    have BB := Lib.hid b1
    clear b1
    go_wp2_with (with_reducible refine stopStore 92 ?_)
    refine Stop.go ?_
    obtain ⟨G, hG⟩ : ∃ G, G = w1.heap.size := ⟨_, rfl⟩
    rw [← hG]
    refine wpList_store_var rfl 92 (.tmp 7) (.tmp 19) rfl G _ rfl _ [.int .i64 (n : Int), .int .i64 (N : Int), .slice a1 q1 k1] rfl (by rw [hG]; exact heap_alloc_new w1 _) (by simp) (by intro u hu; simp at hu; rcases hu with rfl | rfl | rfl <;> rfl) (by exact infoPath) ?_
    intro w2 k2 o2
    have b2 : Below w1.heap.size w1 w2 := Below.only ((Below.refl _ w1).alloc (Nat.le_refl _) _) o2 (by omega)
    have GG : Hid (CB w2 92 G [.int .i64 (n : Int), .int .i64 (N : Int), .slice a1 q1 k1]) := Lib.hid k2
    replace BB := Lib.hid (BB.out.tr b2)
    replace PV := Lib.hid (PV.out.fresh b2)
    clear k2 o2 b2 hG
    go_wp2_with fail
    refine (CS.out _).mono ?_
    rintro e w3 ⟨rfl, rfl⟩
    go_wp2_with fail
    refine (CR.out _ (H.out.fresh BB.out)).mono ?_
    rintro e w4 ⟨rfl, b⟩
    replace GG := Lib.hid (GG.out.fresh b)
    replace BB := Lib.hid (BB.out.tr b)
    replace PV := Lib.hid (PV.out.fresh b)
    clear b
    go_wp2_with fail
    refine (CRr.out _ (H.out.fresh BB.out)).mono ?_
    rintro e w5 ⟨rfl, b⟩
    replace GG := Lib.hid (GG.out.fresh b)
    replace BB := Lib.hid (BB.out.tr b)
    replace PV := Lib.hid (PV.out.fresh b)
    clear b
    go_wp2_with (with_reducible refine stopAt 31 ?_)
    refine Stop.go ?_
    refine wpList_bin rfl .neq 24 24 (.tmp 28) (.tmp 30) rfl (.bool false) (eqGuard_agg _ _ _ _ _ _ _ (by kernel_rfl)) (hash_ne_refl w5 R hRl.out) ?_
    go_wp2_with fail
    refine (CNm.out _ _).mono ?_
    rintro e w6 ⟨rfl, rfl⟩
    go_wp2_with fail
    have SS : Hid (CB w6.drew 92 G [.int .i64 (n : Int), .int .i64 (N : Int), .slice a1 q1 k1]) := Lib.hid GG.out
    replace PV : Hid (Hs w6.drew (.slice a1 q1 k1) Pt) := Lib.hid (PV.out.fresh (Below.refl _ _).drew)
    replace BB := Lib.hid BB.out.drew
    refine pl_start 28 rfl (fun w' => CB w' 92 G [.int .i64 (n : Int), .int .i64 (N : Int), .slice a1 q1 k1]) (by kernel_rfl) ?_
    obtain ⟨w7, hw7⟩ : ∃ w7, w7 = w6.drew := ⟨_, rfl⟩
    rw [← hw7] at SS PV BB ⊢
    clear hw7 GG
    refine pl_take (i := 0) 90 rfl rfl rfl (by kernel_rfl) (by kernel_rfl) (by kernel_rfl) (by simp [Act.put]) SS.out ?_
    apply Exists.intro
    refine And.intro (fun w' hS' => ?_) ?_
    · go_wp2
      exact ⟨trivial, rfl⟩
    refine pl_heavy (i := 1) rfl (by kernel_rfl) ?_
    go_wp2_with fail
    refine (CNm.out _ _).mono ?_
    rintro e w8 ⟨rfl, rfl⟩
    go_wp2
    refine And.intro SS.out ?_
    refine pl_take (i := 2) 92 rfl rfl rfl (by kernel_rfl) (by kernel_rfl) (by kernel_rfl) (by simp [Act.put]) SS.out ?_
    apply Exists.intro
    refine And.intro (fun w' hS' => ?_) ?_
    · have hc0 := hS'.cell 0 _ rfl
      have hc1 := hS'.cell 1 _ rfl
      have hc2 := hS'.cell 2 _ rfl
      clear hS'
      go_wp2
      exact ⟨trivial, rfl⟩
    refine pl_take (i := 3) 93 rfl rfl rfl (by kernel_rfl) (by kernel_rfl) (by kernel_rfl) (by simp [Act.put]) SS.out ?_
    apply Exists.intro
    refine And.intro (fun w' hS' => ?_) ?_
    · have hc0 := hS'.cell 0 _ rfl
      have hc1 := hS'.cell 1 _ rfl
      have hc2 := hS'.cell 2 _ rfl
      clear hS'
      go_wp2
      exact ⟨trivial, rfl⟩
    refine pl_take (i := 4) 94 rfl rfl rfl (by kernel_rfl) (by kernel_rfl) (by kernel_rfl) (by simp [Act.put]) SS.out ?_
    apply Exists.intro
    refine And.intro (fun w' hS' => ?_) ?_
    · have hc0 := hS'.cell 0 _ rfl
      have hc1 := hS'.cell 1 _ rfl
      have hc2 := hS'.cell 2 _ rfl
      clear hS'
      go_wp2
      exact ⟨trivial, rfl⟩
    refine pl_take (i := 5) 95 rfl rfl rfl (by kernel_rfl) (by kernel_rfl) (by kernel_rfl) (by simp [Act.put]) SS.out ?_
    apply Exists.intro
    refine And.intro (fun w' hS' => ?_) ?_
    · have hc0 := hS'.cell 0 _ rfl
      have hc1 := hS'.cell 1 _ rfl
      have hc2 := hS'.cell 2 _ rfl
      clear hS'
      go_wp2
      exact ⟨trivial, rfl⟩
    refine pl_take (i := 6) 96 rfl rfl rfl (by kernel_rfl) (by kernel_rfl) (by kernel_rfl) (by simp [Act.put]) SS.out ?_
    apply Exists.intro
    refine And.intro (fun w' hS' => ?_) ?_
    · have hc0 := hS'.cell 0 _ rfl
      have hc1 := hS'.cell 1 _ rfl
      have hc2 := hS'.cell 2 _ rfl
      clear hS'
      go_wp2
      exact ⟨trivial, rfl⟩
    refine pl_take (i := 7) 97 rfl rfl rfl (by kernel_rfl) (by kernel_rfl) (by kernel_rfl) (by simp [Act.put]) SS.out ?_
    apply Exists.intro
    refine And.intro (fun w' hS' => ?_) ?_
    · have hc0 := hS'.cell 0 _ rfl
      have hc1 := hS'.cell 1 _ rfl
      have hc2 := hS'.cell 2 _ rfl
      clear hS'
      go_wp2
      exact ⟨trivial, rfl⟩
    refine pl_take (i := 8) 98 rfl rfl rfl (by kernel_rfl) (by kernel_rfl) (by kernel_rfl) (by simp [Act.put]) SS.out ?_
    apply Exists.intro
    refine And.intro (fun w' hS' => ?_) ?_
    · have hc0 := hS'.cell 0 _ rfl
      have hc1 := hS'.cell 1 _ rfl
      have hc2 := hS'.cell 2 _ rfl
      clear hS'
      go_wp2
      exact ⟨trivial, rfl⟩
    refine pl_take (i := 9) 99 rfl rfl rfl (by kernel_rfl) (by kernel_rfl) (by kernel_rfl) (by simp [Act.put]) SS.out ?_
    apply Exists.intro
    refine And.intro (fun w' hS' => ?_) ?_
    · have hc0 := hS'.cell 0 _ rfl
      have hc1 := hS'.cell 1 _ rfl
      have hc2 := hS'.cell 2 _ rfl
      clear hS'
      go_wp2
      exact ⟨trivial, rfl⟩
    refine pl_take (i := 10) 100 rfl rfl rfl (by kernel_rfl) (by kernel_rfl) (by kernel_rfl) (by simp [Act.put]) SS.out ?_
    apply Exists.intro
    refine And.intro (fun w' hS' => ?_) ?_
    · have hc0 := hS'.cell 0 _ rfl
      have hc1 := hS'.cell 1 _ rfl
      have hc2 := hS'.cell 2 _ rfl
      clear hS'
      go_wp2
      exact ⟨trivial, rfl⟩
    refine pl_take (i := 11) 101 rfl rfl rfl (by kernel_rfl) (by kernel_rfl) (by kernel_rfl) (by simp [Act.put]) SS.out ?_
    apply Exists.intro
    refine And.intro (fun w' hS' => ?_) ?_
    · have hc0 := hS'.cell 0 _ rfl
      have hc1 := hS'.cell 1 _ rfl
      have hc2 := hS'.cell 2 _ rfl
      clear hS'
      go_wp2
      exact ⟨trivial, rfl⟩
    refine pl_take (i := 12) 102 rfl rfl rfl (by kernel_rfl) (by kernel_rfl) (by kernel_rfl) (by simp [Act.put]) SS.out ?_
    apply Exists.intro
    refine And.intro (fun w' hS' => ?_) ?_
    · have hc0 := hS'.cell 0 _ rfl
      have hc1 := hS'.cell 1 _ rfl
      have hc2 := hS'.cell 2 _ rfl
      clear hS'
      go_wp2
      exact ⟨trivial, rfl⟩
    refine pl_take (i := 13) 103 rfl rfl rfl (by kernel_rfl) (by kernel_rfl) (by kernel_rfl) (by simp [Act.put]) SS.out ?_
    apply Exists.intro
    refine And.intro (fun w' hS' => ?_) ?_
    · have hc0 := hS'.cell 0 _ rfl
      have hc1 := hS'.cell 1 _ rfl
      have hc2 := hS'.cell 2 _ rfl
      clear hS'
      go_wp2
      exact ⟨trivial, rfl⟩
    refine pl_take (i := 14) 104 rfl rfl rfl (by kernel_rfl) (by kernel_rfl) (by kernel_rfl) (by simp [Act.put]) SS.out ?_
    apply Exists.intro
    refine And.intro (fun w' hS' => ?_) ?_
    · have hc0 := hS'.cell 0 _ rfl
      have hc1 := hS'.cell 1 _ rfl
      have hc2 := hS'.cell 2 _ rfl
      clear hS'
      go_wp2
      exact ⟨trivial, rfl⟩
    refine pl_take (i := 15) 105 rfl rfl rfl (by kernel_rfl) (by kernel_rfl) (by kernel_rfl) (by simp [Act.put]) SS.out ?_
    apply Exists.intro
    refine And.intro (fun w' hS' => ?_) ?_
    · have hc0 := hS'.cell 0 _ rfl
      have hc1 := hS'.cell 1 _ rfl
      have hc2 := hS'.cell 2 _ rfl
      clear hS'
      go_wp2
      exact ⟨trivial, rfl⟩
    refine pl_take (i := 16) 106 rfl rfl rfl (by kernel_rfl) (by kernel_rfl) (by kernel_rfl) (by simp [Act.put]) SS.out ?_
    apply Exists.intro
    refine And.intro (fun w' hS' => ?_) ?_
    · have hc0 := hS'.cell 0 _ rfl
      have hc1 := hS'.cell 1 _ rfl
      have hc2 := hS'.cell 2 _ rfl
      clear hS'
      go_wp2
      exact ⟨trivial, rfl⟩
    refine pl_take (i := 17) 107 rfl rfl rfl (by kernel_rfl) (by kernel_rfl) (by kernel_rfl) (by simp [Act.put]) SS.out ?_
    apply Exists.intro
    refine And.intro (fun w' hS' => ?_) ?_
    · have hc0 := hS'.cell 0 _ rfl
      have hc1 := hS'.cell 1 _ rfl
      have hc2 := hS'.cell 2 _ rfl
      clear hS'
      go_wp2
      exact ⟨trivial, rfl⟩
    refine pl_take (i := 18) 108 rfl rfl rfl (by kernel_rfl) (by kernel_rfl) (by kernel_rfl) (by simp [Act.put]) SS.out ?_
    apply Exists.intro
    refine And.intro (fun w' hS' => ?_) ?_
    · have hc0 := hS'.cell 0 _ rfl
      have hc1 := hS'.cell 1 _ rfl
      have hc2 := hS'.cell 2 _ rfl
      clear hS'
      go_wp2
      exact ⟨trivial, rfl⟩
    refine pl_take (i := 19) 109 rfl rfl rfl (by kernel_rfl) (by kernel_rfl) (by kernel_rfl) (by simp [Act.put]) SS.out ?_
    apply Exists.intro
    refine And.intro (fun w' hS' => ?_) ?_
    · have hc0 := hS'.cell 0 _ rfl
      have hc1 := hS'.cell 1 _ rfl
      have hc2 := hS'.cell 2 _ rfl
      clear hS'
      go_wp2
      exact ⟨trivial, rfl⟩
    refine pl_take (i := 20) 110 rfl rfl rfl (by kernel_rfl) (by kernel_rfl) (by kernel_rfl) (by simp [Act.put]) SS.out ?_
    apply Exists.intro
    refine And.intro (fun w' hS' => ?_) ?_
    · have hc0 := hS'.cell 0 _ rfl
      have hc1 := hS'.cell 1 _ rfl
      have hc2 := hS'.cell 2 _ rfl
      clear hS'
      go_wp2
      exact ⟨trivial, rfl⟩
    refine pl_heavy (i := 21) rfl (by kernel_rfl) ?_
    go_wp2_with fail
    refine (CPr.out _ (H.out.fresh BB.out)).mono ?_
    rintro e w9 ⟨v9, rfl, o9, b⟩
    have RV := Lib.hid o9.hs
    obtain ⟨a9, k9, rfl⟩ := o9.slice
    replace SS := Lib.hid (SS.out.fresh b)
    replace BB := Lib.hid (BB.out.tr b)
    replace PV := Lib.hid (PV.out.fresh b)
    clear b o9
    go_wp2
    refine And.intro SS.out ?_
    refine pl_heavy (i := 22) rfl (by kernel_rfl) ?_
    go_wp2_with fail
    refine (ysame_any w9 _ _ Pt Pt PV.out RV.out).mono ?_
    rintro e w10 ⟨rfl, b⟩
    replace SS := Lib.hid (SS.out.fresh b)
    replace BB := Lib.hid (BB.out.tr b)
    clear b
    go_wp2
    refine And.intro SS.out ?_
    refine pl_take (i := 23) 113 rfl rfl rfl (by kernel_rfl) (by kernel_rfl) (by kernel_rfl) (by simp [Act.put]) SS.out ?_
    apply Exists.intro
    refine And.intro (fun w' hS' => ?_) ?_
    · go_wp2
      exact ⟨trivial, rfl⟩
    refine pl_take (i := 24) 114 rfl rfl rfl (by kernel_rfl) (by kernel_rfl) (by kernel_rfl) (by simp [Act.put]) SS.out ?_
    apply Exists.intro
    refine And.intro (fun w' hS' => ?_) ?_
    · go_wp2
      exact ⟨trivial, rfl⟩
    refine pl_heavy (i := 25) rfl (by kernel_rfl) ?_
    go_wp2_with fail
    refine (CKn.out _).mono ?_
    rintro e w11 ⟨rfl, b⟩
    replace SS := Lib.hid (SS.out.fresh b)
    replace BB := Lib.hid (BB.out.tr b)
    clear b
    go_wp2
    refine And.intro SS.out ?_
    refine pl_take (i := 26) 116 rfl rfl rfl (by kernel_rfl) (by kernel_rfl) (by kernel_rfl) (by simp [Act.put]) SS.out ?_
    apply Exists.intro
    refine And.intro (fun w' hS' => ?_) ?_
    · go_wp2
      exact ⟨trivial, rfl⟩
    refine pl_heavy (i := 27) rfl (by kernel_rfl) ?_
    go_wp2
    refine And.intro SS.out ?_
    refine pl_done (by kernel_rfl) ?_
    go_wp2
    go_ret
    exact ⟨rfl, BB.out⟩

set_option maxRecDepth 100000 in
set_option maxHeartbeats 4000000 in
theorem yroots_size (w : World) (v : Value) (l : List Bs) (h : Hs w v l) (n : Nat) (c : Nat) (hN : l.length ≤ 70) (hn : (n : Int) < 0 ∨ (l.length : Int) ≤ (n : Int)) (hc : n < c) (hm : c ≤ 1048576) :
    Calls Try.prog 8 #[v, .int .i64 (n : Int), .int .i64 (c : Int)] w fun e w' => e = .returned (.bool true) ∧ Below w.heap.size w w' := by
  obtain ⟨a0, c0, rfl⟩ := h.slice
  have CKn := Lib.hid (fun w0 => yknown_any w0)
  have CNm := Lib.hid (fun w0 k => ynum_any w0 k)
  have CR := fun w0 h0 => mroot_any w0 (.slice a0 l.length c0) l h0 (by omega)
  have CRr := fun w0 h0 => rroot_any w0 (.slice a0 l.length c0) l h0 (by omega)
  obtain ⟨R, hR⟩ : ∃ R, R = rootB l := ⟨_, rfl⟩
  have hRl : Hid (R.length = 32) := Lib.hid (by rw [hR]; exact rootB_length l)
  rw [← hR] at CR CRr
  have CP := fun w0 h0 => mpath_no w0 (n : Int) (.slice a0 l.length c0) l h0 hn
  have CS := fun w0 => msize_ok w0 n c hc hm
  have CSr := fun w0 => rsize_any 20 (by omega) w0 n c hc (by omega)
  obtain ⟨s, hs⟩ : ∃ s, s = sizeM 20 n c := ⟨_, rfl⟩
  rw [← hs] at CS CSr
  obtain ⟨N, hN'⟩ : ∃ N, N = l.length := ⟨_, rfl⟩
  rw [← hN'] at h hN CR CRr CP hn ⊢
  have i70 : ¬ ((70 : Int) < (N : Int)) := by omega
  have m1 : ¬ ((n : Int) < 0) := by omega
  have m2 : ¬ ((c : Int) ≤ (n : Int)) := by omega
  have m3 : ¬ ((1048576 : Int) < (c : Int)) := by omega
  replace CR := Lib.hid CR
  replace CRr := Lib.hid CRr
  replace CP := Lib.hid CP
  replace CS := Lib.hid CS
  replace CSr := Lib.hid CSr
  have H := Lib.hid h
  clear h hN hN' hR hs hc hm
  have p2 : (N : Int) ≤ (n : Int) := by omega
  clear hn
  go_enter Try.func8, Try.ntmps8
  go_wp2_with fail
  refine (CP.out _ H.out).mono ?_
  rintro e w1 ⟨rfl, b1⟩
  have BB := Lib.hid b1
  clear b1
  go_wp2_with (with_reducible refine stopStore 92 ?_)
  refine Stop.go ?_
  obtain ⟨G, hG⟩ : ∃ G, G = w1.heap.size := ⟨_, rfl⟩
  rw [← hG]
  refine wpList_store_var rfl 92 (.tmp 7) (.tmp 19) rfl G _ rfl _ [.int .i64 0, .int .i64 0, .slice none 0 0] rfl (by rw [hG]; exact heap_alloc_new w1 _) (by simp) (by intro u hu; simp at hu; rcases hu with rfl | rfl | rfl <;> rfl) (by exact infoPath) ?_
  intro w2 k2 o2
  have b2 : Below w1.heap.size w1 w2 := Below.only ((Below.refl _ w1).alloc (Nat.le_refl _) _) o2 (by omega)
  have GG : Hid (CB w2 92 G [.int .i64 0, .int .i64 0, .slice none 0 0]) := Lib.hid k2
  replace BB := Lib.hid (BB.out.tr b2)
  clear k2 o2 b2 hG
  go_wp2_with fail
  refine (CS.out _).mono ?_
  rintro e w3 ⟨rfl, rfl⟩
  go_wp2_with fail
  refine (CR.out _ (H.out.fresh BB.out)).mono ?_
  rintro e w4 ⟨rfl, b⟩
  replace GG := Lib.hid (GG.out.fresh b)
  replace BB := Lib.hid (BB.out.tr b)
  clear b
  go_wp2_with fail
  refine (CRr.out _ (H.out.fresh BB.out)).mono ?_
  rintro e w5 ⟨rfl, b⟩
  replace GG := Lib.hid (GG.out.fresh b)
  replace BB := Lib.hid (BB.out.tr b)
  clear b
  go_wp2_with (with_reducible refine stopAt 31 ?_)
  refine Stop.go ?_
  refine wpList_bin rfl .neq 24 24 (.tmp 28) (.tmp 30) rfl (.bool false) (eqGuard_agg _ _ _ _ _ _ _ (by kernel_rfl)) (hash_ne_refl w5 R hRl.out) ?_
  go_wp2_with fail
  refine (CSr.out _).mono ?_
  rintro e w6 ⟨rfl, rfl⟩
  go_wp2_with fail
  refine (CNm.out _ _).mono ?_
  rintro e w6 ⟨rfl, rfl⟩
  go_wp2_with fail
  refine (CNm.out _ _).mono ?_
  rintro e w7 ⟨rfl, rfl⟩
  have hc0 := GG.out.cell 0 _ rfl
  have hc1 := GG.out.cell 1 _ rfl
  have hc2 := GG.out.cell 2 _ rfl
  go_wp2_with fail
  refine (CKn.out _).mono ?_
  rintro e w8 ⟨rfl, b⟩
  clear hc0 hc1 hc2
  replace BB := Lib.hid (BB.out.tr b)
  clear b
  go_wp2
  go_ret
  exact ⟨rfl, BB.out⟩

set_option maxRecDepth 100000 in
set_option maxHeartbeats 4000000 in
theorem yroots_none (w : World) (v : Value) (l : List Bs) (h : Hs w v l) (n : Int) (c : Int) (hN : l.length ≤ 70) (hn : n < 0 ∨ (l.length : Int) ≤ n) (hc : n < 0 ∨ c ≤ n ∨ 1048576 < c) :
    Calls Try.prog 8 #[v, .int .i64 n, .int .i64 c] w fun e w' => e = .returned (.bool true) ∧ Below w.heap.size w w' := by
  obtain ⟨a0, c0, rfl⟩ := h.slice
  have CKn := Lib.hid (fun w0 => yknown_any w0)
  have CNm := Lib.hid (fun w0 k => ynum_any w0 k)
  have CR := fun w0 h0 => mroot_any w0 (.slice a0 l.length c0) l h0 (by omega)
  have CRr := fun w0 h0 => rroot_any w0 (.slice a0 l.length c0) l h0 (by omega)
  obtain ⟨R, hR⟩ : ∃ R, R = rootB l := ⟨_, rfl⟩
  have hRl : Hid (R.length = 32) := Lib.hid (by rw [hR]; exact rootB_length l)
  rw [← hR] at CR CRr
  have CP := fun w0 h0 => mpath_no w0 n (.slice a0 l.length c0) l h0 hn
  have CS := fun w0 => msize_no w0 n c hc
  obtain ⟨N, hN'⟩ : ∃ N, N = l.length := ⟨_, rfl⟩
  rw [← hN'] at h hN CR CRr CP hn ⊢
  have i70 : ¬ ((70 : Int) < (N : Int)) := by omega
  replace CR := Lib.hid CR
  replace CRr := Lib.hid CRr
  replace CP := Lib.hid CP
  replace CS := Lib.hid CS
  have H := Lib.hid h
  clear h hN hN' hR
  by_cases p1 : n < 0
  · clear hn
    clear hc
    go_enter Try.func8, Try.ntmps8
    go_wp2_with fail
    refine (CP.out _ H.out).mono ?_
    rintro e w1 ⟨rfl, b1⟩
    have BB := Lib.hid b1
    clear b1
    go_wp2_with (with_reducible refine stopStore 92 ?_)
    refine Stop.go ?_
    obtain ⟨G, hG⟩ : ∃ G, G = w1.heap.size := ⟨_, rfl⟩
    rw [← hG]
    refine wpList_store_var rfl 92 (.tmp 7) (.tmp 19) rfl G _ rfl _ [.int .i64 0, .int .i64 0, .slice none 0 0] rfl (by rw [hG]; exact heap_alloc_new w1 _) (by simp) (by intro u hu; simp at hu; rcases hu with rfl | rfl | rfl <;> rfl) (by exact infoPath) ?_
    intro w2 k2 o2
    have b2 : Below w1.heap.size w1 w2 := Below.only ((Below.refl _ w1).alloc (Nat.le_refl _) _) o2 (by omega)
    have GG : Hid (CB w2 92 G [.int .i64 0, .int .i64 0, .slice none 0 0]) := Lib.hid k2
    replace BB := Lib.hid (BB.out.tr b2)
    clear k2 o2 b2 hG
    go_wp2_with fail
    refine (CS.out _).mono ?_
    rintro e w3 ⟨rfl, rfl⟩
    go_wp2_with fail
    refine (CR.out _ (H.out.fresh BB.out)).mono ?_
    rintro e w4 ⟨rfl, b⟩
    replace GG := Lib.hid (GG.out.fresh b)
    replace BB := Lib.hid (BB.out.tr b)
    clear b
    go_wp2_with fail
    refine (CRr.out _ (H.out.fresh BB.out)).mono ?_
    rintro e w5 ⟨rfl, b⟩
    replace GG := Lib.hid (GG.out.fresh b)
    replace BB := Lib.hid (BB.out.tr b)
    clear b
    go_wp2_with (with_reducible refine stopAt 31 ?_)
    refine Stop.go ?_
    refine wpList_bin rfl .neq 24 24 (.tmp 28) (.tmp 30) rfl (.bool false) (eqGuard_agg _ _ _ _ _ _ _ (by kernel_rfl)) (hash_ne_refl w5 R hRl.out) ?_
    go_wp2_with fail
    refine (CNm.out _ _).mono ?_
    rintro e w6 ⟨rfl, rfl⟩
    go_wp2_with fail
    refine (CNm.out _ _).mono ?_
    rintro e w7 ⟨rfl, rfl⟩
    have hc0 := GG.out.cell 0 _ rfl
    have hc1 := GG.out.cell 1 _ rfl
    have hc2 := GG.out.cell 2 _ rfl
    go_wp2_with fail
    refine (CKn.out _).mono ?_
    rintro e w8 ⟨rfl, b⟩
    clear hc0 hc1 hc2
    replace BB := Lib.hid (BB.out.tr b)
    clear b
    go_wp2
    go_ret
    exact ⟨rfl, BB.out⟩
  have p2 : (N : Int) ≤ n := by omega
  by_cases q2 : c ≤ n
  · clear hn
    clear hc
    go_enter Try.func8, Try.ntmps8
    go_wp2_with fail
    refine (CP.out _ H.out).mono ?_
    rintro e w1 ⟨rfl, b1⟩
    have BB := Lib.hid b1
    clear b1
    go_wp2_with (with_reducible refine stopStore 92 ?_)
    refine Stop.go ?_
    obtain ⟨G, hG⟩ : ∃ G, G = w1.heap.size := ⟨_, rfl⟩
    rw [← hG]
    refine wpList_store_var rfl 92 (.tmp 7) (.tmp 19) rfl G _ rfl _ [.int .i64 0, .int .i64 0, .slice none 0 0] rfl (by rw [hG]; exact heap_alloc_new w1 _) (by simp) (by intro u hu; simp at hu; rcases hu with rfl | rfl | rfl <;> rfl) (by exact infoPath) ?_
    intro w2 k2 o2
    have b2 : Below w1.heap.size w1 w2 := Below.only ((Below.refl _ w1).alloc (Nat.le_refl _) _) o2 (by omega)
    have GG : Hid (CB w2 92 G [.int .i64 0, .int .i64 0, .slice none 0 0]) := Lib.hid k2
    replace BB := Lib.hid (BB.out.tr b2)
    clear k2 o2 b2 hG
    go_wp2_with fail
    refine (CS.out _).mono ?_
    rintro e w3 ⟨rfl, rfl⟩
    go_wp2_with fail
    refine (CR.out _ (H.out.fresh BB.out)).mono ?_
    rintro e w4 ⟨rfl, b⟩
    replace GG := Lib.hid (GG.out.fresh b)
    replace BB := Lib.hid (BB.out.tr b)
    clear b
    go_wp2_with fail
    refine (CRr.out _ (H.out.fresh BB.out)).mono ?_
    rintro e w5 ⟨rfl, b⟩
    replace GG := Lib.hid (GG.out.fresh b)
    replace BB := Lib.hid (BB.out.tr b)
    clear b
    go_wp2_with (with_reducible refine stopAt 31 ?_)
    refine Stop.go ?_
    refine wpList_bin rfl .neq 24 24 (.tmp 28) (.tmp 30) rfl (.bool false) (eqGuard_agg _ _ _ _ _ _ _ (by kernel_rfl)) (hash_ne_refl w5 R hRl.out) ?_
    go_wp2_with fail
    refine (CNm.out _ _).mono ?_
    rintro e w6 ⟨rfl, rfl⟩
    go_wp2_with fail
    refine (CNm.out _ _).mono ?_
    rintro e w7 ⟨rfl, rfl⟩
    have hc0 := GG.out.cell 0 _ rfl
    have hc1 := GG.out.cell 1 _ rfl
    have hc2 := GG.out.cell 2 _ rfl
    go_wp2_with fail
    refine (CKn.out _).mono ?_
    rintro e w8 ⟨rfl, b⟩
    clear hc0 hc1 hc2
    replace BB := Lib.hid (BB.out.tr b)
    clear b
    go_wp2
    go_ret
    exact ⟨rfl, BB.out⟩
  · have q3 : 1048576 < c := by omega
    clear hn
    clear hc
    go_enter Try.func8, Try.ntmps8
    go_wp2_with fail
    refine (CP.out _ H.out).mono ?_
    rintro e w1 ⟨rfl, b1⟩
    have BB := Lib.hid b1
    clear b1
    go_wp2_with (with_reducible refine stopStore 92 ?_)
    refine Stop.go ?_
    obtain ⟨G, hG⟩ : ∃ G, G = w1.heap.size := ⟨_, rfl⟩
    rw [← hG]
    refine wpList_store_var rfl 92 (.tmp 7) (.tmp 19) rfl G _ rfl _ [.int .i64 0, .int .i64 0, .slice none 0 0] rfl (by rw [hG]; exact heap_alloc_new w1 _) (by simp) (by intro u hu; simp at hu; rcases hu with rfl | rfl | rfl <;> rfl) (by exact infoPath) ?_
    intro w2 k2 o2
    have b2 : Below w1.heap.size w1 w2 := Below.only ((Below.refl _ w1).alloc (Nat.le_refl _) _) o2 (by omega)
    have GG : Hid (CB w2 92 G [.int .i64 0, .int .i64 0, .slice none 0 0]) := Lib.hid k2
    replace BB := Lib.hid (BB.out.tr b2)
    clear k2 o2 b2 hG
    go_wp2_with fail
    refine (CS.out _).mono ?_
    rintro e w3 ⟨rfl, rfl⟩
    go_wp2_with fail
    refine (CR.out _ (H.out.fresh BB.out)).mono ?_
    rintro e w4 ⟨rfl, b⟩
    replace GG := Lib.hid (GG.out.fresh b)
    replace BB := Lib.hid (BB.out.tr b)
    clear b
    go_wp2_with fail
    refine (CRr.out _ (H.out.fresh BB.out)).mono ?_
    rintro e w5 ⟨rfl, b⟩
    replace GG := Lib.hid (GG.out.fresh b)
    replace BB := Lib.hid (BB.out.tr b)
    clear b
    go_wp2_with (with_reducible refine stopAt 31 ?_)
    refine Stop.go ?_
    refine wpList_bin rfl .neq 24 24 (.tmp 28) (.tmp 30) rfl (.bool false) (eqGuard_agg _ _ _ _ _ _ _ (by kernel_rfl)) (hash_ne_refl w5 R hRl.out) ?_
    go_wp2_with fail
    refine (CNm.out _ _).mono ?_
    rintro e w6 ⟨rfl, rfl⟩
    go_wp2_with fail
    refine (CNm.out _ _).mono ?_
    rintro e w7 ⟨rfl, rfl⟩
    have hc0 := GG.out.cell 0 _ rfl
    have hc1 := GG.out.cell 1 _ rfl
    have hc2 := GG.out.cell 2 _ rfl
    go_wp2_with fail
    refine (CKn.out _).mono ?_
    rintro e w8 ⟨rfl, b⟩
    clear hc0 hc1 hc2
    replace BB := Lib.hid (BB.out.tr b)
    clear b
    go_wp2
    go_ret
    exact ⟨rfl, BB.out⟩

theorem yroots_row (w : World) (v : Value) (l : List Bs) (h : Hs w v l) (n c : Int) :
    Calls Try.prog 8 #[v, .int .i64 n, .int .i64 c] w fun e w' => e = .returned (.bool true) ∧ Below w.heap.size w w' := by
  by_cases hN : 70 < l.length
  · exact yroots_great w v l h n c hN
  by_cases hp : 0 ≤ n ∧ n < (l.length : Int)
  · obtain ⟨a, rfl⟩ := Int.eq_ofNat_of_zero_le hp.1
    by_cases hs : (a : Int) < c ∧ c ≤ 1048576
    · obtain ⟨b, rfl⟩ := Int.eq_ofNat_of_zero_le (show 0 ≤ c by omega)
      exact yroots_both w v l h a b (by omega) (by omega) (by omega) (by omega)
    · exact yroots_place w v l h a c (by omega) (by omega) (by omega)
  · by_cases hs : 0 ≤ n ∧ n < c ∧ c ≤ 1048576
    · obtain ⟨a, rfl⟩ := Int.eq_ofNat_of_zero_le hs.1
      obtain ⟨b, rfl⟩ := Int.eq_ofNat_of_zero_le (show 0 ≤ c by omega)
      exact yroots_size w v l h a b (by omega) (by omega) (by omega) (by omega)
    · exact yroots_none w v l h n c (by omega) (by omega) (by omega)

end Go.Proofs.Ytbabjepblakboaa
