/- Merkle: the reference's roots, sizes, paths: the walks. -/
import Derived.Test.YtbabjepblakboaaYi
namespace Go.Proofs.Ytbabjepblakboaa
set_option linter.unusedVariables false
set_option linter.unusedSimpArgs false
open Go.RowKit Go.Lib

set_option maxRecDepth 100000 in
set_option maxHeartbeats 1000000 in
theorem rroot_any (w : World) (v : Value) (l : List Bs) (h : Hs w v l) (hl : l.length ≤ 1048576) :
    Calls Try.prog 50 #[v] w fun e w' => e = .returned (.agg (bvs (rootB l)).toArray) ∧ Below w.heap.size w w' := by
  obtain ⟨a0, c0, rfl⟩ := h.slice
  obtain ⟨Z, hZ⟩ : ∃ Z, Z = rootB l := ⟨_, rfl⟩
  have hZl : Hid (Z.length = 32) := Lib.hid (by rw [hZ]; exact topB_length _ _)
  obtain ⟨N, hN⟩ : ∃ N, N = l.length := ⟨_, rfl⟩
  rw [← hZ]
  by_cases h0 : N = 0
  · have hl0 : l = [] := List.eq_nil_of_length_eq_zero (by omega)
    have hz : Hid (Z = topB 0 []) := Lib.hid (by rw [hZ, hl0]; rfl)
    rw [← hN]
    subst h0
    clear h hl hZ hN hl0
    go_enter Try.func50, Try.ntmps50
    go_wp2_with fail
    obtain ⟨w1, h1, k1, b1, s1⟩ := alloc_cb w 24 (bvs (List.replicate 32 0))
    change Calls _ _ _ (w.alloc (.cells (bvs (List.replicate 32 0)).toArray 24)) _
    rw [← h1]
    refine (rtop_any w1 0 (.slice none 0 0) [] (by omega) (Rd.nil _ _) (by simp)).mono ?_
    rintro e w2 ⟨rfl, b2⟩
    rw [← hz.out]
    have B2 := Lib.hid (b1.tr b2)
    have K2 := Lib.hid (k1.fresh b2)
    clear b1 b2 k1 s1 h1
    go_wp2_with (with_reducible refine stopStore 24 ?_)
    refine Stop.go ?_
    refine wpList_store_var rfl 24 (.tmp 2) (.tmp 7) rfl (w.heap.size) _ rfl _ (bvs Z) rfl K2.out (by simp [hZl.out]) (bvs_one _) (by rw [bvs_length, hZl.out]; exact infoHash) ?_
    intro wf kf of
    have BF : Hid (Below w.heap.size w wf) := Below.only B2.out of (by omega)
    have KF := Lib.hid kf
    clear kf of
    go_wp2
    exact bodyPost_ret (results_cell1 rfl _ _ (w.heap.size) _ _ _ _ rfl KF.out Try.underlying24 rfl (by simp [hZl.out, infoHash])) rfl ⟨rfl, BF.out⟩
  · obtain ⟨Y, hY⟩ : ∃ Y, Y = leftM knotB [] 20 (l.map leafB) := ⟨_, rfl⟩
    have hz : Hid (Z = topB N Y) := Lib.hid (by rw [hZ, rootB, if_neg (by intro e; rw [e] at hN; simp at hN; omega), hY, hN])
    have CL := fun w0 h0 => rleft_any 20 (by omega) w0 (.slice a0 l.length c0) l h0 (by omega) (by omega)
    rw [← hY] at CL
    have hYl : Hid (Y.length = 32) := Lib.hid (by rw [hY]; exact leftM_h32 20 _ (leaves_h32 _) (by rw [List.length_map]; omega) (by rw [List.length_map]; omega))
    rw [← hN] at CL h hl ⊢
    replace CL := Lib.hid CL
    have H := Lib.hid h
    have i1 : ¬ ((N : Int) = 0) := by omega
    have HL := Lib.hid hl
    clear h hl hN hZ hY h0
    go_enter Try.func50, Try.ntmps50
    go_wp2_with fail
    obtain ⟨w1, h1, k1, b1, s1⟩ := alloc_cb w 24 (bvs (List.replicate 32 0))
    change Calls _ _ _ (w.alloc (.cells (bvs (List.replicate 32 0)).toArray 24)) _
    rw [← h1]
    refine (CL.out w1 (H.out.fresh b1)).mono ?_
    rintro e w2 ⟨rfl, b2⟩
    have B2 := Lib.hid (b1.tr b2)
    have K2 := Lib.hid (k1.fresh b2)
    clear b1 b2 k1 s1 h1
    go_wp2_with (with_reducible refine stopStore 24 ?_)
    refine Stop.go ?_
    refine wpList_store_var rfl 24 (.tmp 3) (.tmp 9) rfl w2.heap.size _ rfl _ (bvs Y) rfl (heap_alloc_new w2 _) (by simp [hYl.out]) (bvs_one _) (by rw [bvs_length, hYl.out]; exact infoHash) ?_
    intro w3 kw3 ow3
    have bw3 : Below w2.heap.size w2 w3 := Below.only ((Below.refl _ w2).alloc (Nat.le_refl _) _) ow3 (Nat.le_refl _)
    replace kw3 : CB w3 24 w2.heap.size (bvs Y) := kw3
    clear ow3
    have B3 := Lib.hid (B2.out.tr bw3)
    have K3 := Lib.hid (K2.out.fresh bw3)
    have R3 := Lib.hid (CB.rd32 kw3 hYl.out)
    clear bw3 kw3 B2 K2
    go_wp2_with fail
    refine (rtop_any w3 N _ Y (by have := HL.out; omega) R3.out (by rw [hYl.out]; decide)).mono ?_
    rintro e w4 ⟨rfl, b4⟩
    rw [← hz.out]
    have B4 := Lib.hid (B3.out.tr b4)
    have K4 := Lib.hid (K3.out.fresh b4)
    clear b4 R3 B3 K3
    go_wp2_with (with_reducible refine stopStore 24 ?_)
    refine Stop.go ?_
    refine wpList_store_var rfl 24 (.tmp 2) (.tmp 13) rfl (w.heap.size) _ rfl _ (bvs Z) rfl K4.out (by simp [hZl.out]) (bvs_one _) (by rw [bvs_length, hZl.out]; exact infoHash) ?_
    intro wf kf of
    have BF : Hid (Below w.heap.size w wf) := Below.only B4.out of (by omega)
    have KF := Lib.hid kf
    clear kf of
    go_wp2
    exact bodyPost_ret (results_cell1 rfl _ _ (w.heap.size) _ _ _ _ rfl KF.out Try.underlying24 rfl (by simp [hZl.out, infoHash])) rfl ⟨rfl, BF.out⟩

set_option maxRecDepth 100000 in
set_option maxHeartbeats 1000000 in
theorem rsize_any (m : Nat) (hm : m ≤ 20) : ∀ (w : World) (n c : Nat), n < c → c ≤ 2 ^ m →
    Calls Try.prog 52 #[.int .i64 (n : Int), .int .i64 (c : Int)] w fun e w' => e = .returned (.int .i64 (sizeM m n c : Int)) ∧ w' = w := by
  induction m with
  | zero =>
    intro w n c h1 h2
    have hc : c = 1 := by simp at h2; omega
    subst hc
    rw [show sizeM 0 n 1 = 0 from rfl]
    clear h1 h2
    go_enter Try.func52, Try.ntmps52
    go_wp2
    go_ret
    exact ⟨rfl, rfl⟩
  | succ m ih =>
    intro w n c h1 h2
    have ih := ih (by omega)
    rw [sizeM]
    by_cases hle : c ≤ 2 ^ m
    · rw [if_pos hle]
      exact ih w n c h1 hle
    · rw [if_neg hle]
      obtain ⟨p, hp⟩ : ∃ p, p = 2 ^ m := ⟨_, rfl⟩
      have CH := fun w0 => half_any w0 m c (by omega) h2 (by omega)
      have hpl : 2 ^ (m + 1) = p * 2 := by rw [hp, Nat.pow_succ]
      have hp0 : 0 < p := by rw [hp]; exact Nat.pow_pos (by decide)
      have hpb : p ≤ 1048576 := by rw [hp]; exact Nat.pow_le_pow_right (by decide) (show m ≤ 20 by omega)
      rw [← hp] at hle CH ih ⊢
      have i1 : ¬ ((c : Int) ≤ 1) := by omega
      have bp : (p : Int) ≤ 1048576 := by omega
      have bc : (c : Int) ≤ 2097152 := by omega
      have bn : (n : Int) < (c : Int) := by omega
      by_cases hk : n < p
      · rw [if_pos hk]
        have CI := fun w0 => ih w0 n p hk (Nat.le_refl _)
        obtain ⟨s, hs⟩ : ∃ s, s = sizeM m n p := ⟨_, rfl⟩
        have hsl : s ≤ 20 := by rw [hs]; have := sizeM_le m n p; omega
        rw [← hs] at CI ⊢
        have bs : (s : Int) ≤ 20 := by omega
        have i2 : (n : Int) < (p : Int) := by omega
        replace CI := Lib.hid CI
        replace CH := Lib.hid CH
        clear ih h1 h2 hle hpl hp0 hpb hk hs hsl hp
        go_enter Try.func52, Try.ntmps52
        go_wp2_with fail
        refine (CH.out _).mono ?_
        rintro e w1 ⟨rfl, rfl⟩
        go_wp2_with fail
        refine (CI.out _).mono ?_
        rintro e w2 ⟨rfl, rfl⟩
        go_wp2
        go_ret
        exact ⟨by go_num, rfl⟩
      · rw [if_neg hk]
        obtain ⟨n', hn'⟩ : ∃ n', n' = n - p := ⟨_, rfl⟩
        obtain ⟨c', hc'⟩ : ∃ c', c' = c - p := ⟨_, rfl⟩
        have CI := fun w0 => ih w0 n' c' (by omega) (by omega)
        rw [← hn', ← hc']
        obtain ⟨s, hs⟩ : ∃ s, s = sizeM m n' c' := ⟨_, rfl⟩
        have hsl : s ≤ 20 := by rw [hs]; have := sizeM_le m n' c'; omega
        rw [← hs] at CI ⊢
        have bs : (s : Int) ≤ 20 := by omega
        have i2 : ¬ ((n : Int) < (p : Int)) := by omega
        have i3 : (n : Int) - (p : Int) = (n' : Int) := by omega
        have i4 : (c : Int) - (p : Int) = (c' : Int) := by omega
        replace CI := Lib.hid CI
        replace CH := Lib.hid CH
        clear ih h1 h2 hle hpl hp0 hpb hk hs hsl hn' hc' hp
        go_enter Try.func52, Try.ntmps52
        go_wp2_with fail
        refine (CH.out _).mono ?_
        rintro e w1 ⟨rfl, rfl⟩
        go_wp2_with fail
        refine (CI.out _).mono ?_
        rintro e w2 ⟨rfl, rfl⟩
        go_wp2
        go_ret
        exact ⟨by go_num, rfl⟩

set_option maxRecDepth 100000 in
set_option maxHeartbeats 2000000 in
theorem rpath_any (m : Nat) (hm : m ≤ 20) : ∀ (w : World) (n : Nat) (v : Value) (l : List Bs), Hs w v l → n < l.length → l.length ≤ 2 ^ m →
    Calls Try.prog 54 #[.int .i64 (n : Int), v] w fun e w' => ∃ v', e = .returned v' ∧ Ho w' w.heap.size v' (pathM knotB [] m n (l.map leafB)) ∧ Below w.heap.size w w' := by
  obtain ⟨i0, hi, hz0, hz1, hz2⟩ := info_parts infoHash3
  induction m with
  | zero =>
    intro w n v l h h1 h2
    have hl : l.length = 1 := by simp at h2; omega
    obtain ⟨a0, c0, rfl⟩ := h.slice' hl
    rw [show pathM knotB [] 0 n (l.map leafB) = [] from rfl]
    clear h h1 h2
    go_enter Try.func54, Try.ntmps54
    go_wp2
    go_ret
    exact ⟨_, rfl, Ho.nil _ _, Below.refl _ _⟩
  | succ m ih =>
    intro w n v l h h1 h2
    have ih := ih (by omega)
    rw [pathM]
    by_cases hle : l.length ≤ 2 ^ m
    · rw [if_pos (by rw [List.length_map]; exact hle)]
      exact ih w n v l h h1 hle
    · rw [if_neg (by rw [List.length_map]; exact hle), ← List.map_take, ← List.map_drop]
      obtain ⟨a0, c0, rfl⟩ := h.slice
      obtain ⟨N, hN⟩ : ∃ N, N = l.length := ⟨_, rfl⟩
      rw [← hN] at h h1 h2 hle ⊢
      obtain ⟨p, hp⟩ : ∃ p, p = 2 ^ m := ⟨_, rfl⟩
      have CH := fun w0 => half_any w0 m N (by omega) h2 (by omega)
      have hpl : 2 ^ (m + 1) = p * 2 := by rw [hp, Nat.pow_succ]
      have ht : (l.take (2 ^ m)).length = 2 ^ m := by rw [List.length_take]; omega
      have hd : (l.drop (2 ^ m)).length = N - 2 ^ m := by rw [List.length_drop, hN]
      rw [← hp] at hle CH ih ht hd ⊢
      have hp0 : 0 < p := by rw [hp]; exact Nat.pow_pos (by decide)
      have hpb : p ≤ 1048576 := by rw [hp]; exact Nat.pow_le_pow_right (by decide) (show m ≤ 20 by omega)
      have hcap := h.cap
      have i1 : ¬ ((N : Int) ≤ 1) := by omega
      have i2 : (p : Int) ≤ (N : Int) := by omega
      have i3 : (N : Int) ≤ (c0 : Int) := by omega
      by_cases hk : n < p
      · rw [if_pos hk]
        have C1 := fun w0 v0 h0 => ih w0 n v0 (l.take p) h0 (by omega) (by omega)
        have C2 := fun w0 v0 h0 => rleft_any m (by omega) w0 v0 (l.drop p) h0 (by omega) (by omega)
        obtain ⟨Pt, hPt⟩ : ∃ x, x = pathM knotB [] m n ((l.take p).map leafB) := ⟨_, rfl⟩
        obtain ⟨Y, hY⟩ : ∃ Y, Y = leftM knotB [] m ((l.drop p).map leafB) := ⟨_, rfl⟩
        rw [← hPt] at C1
        rw [← hY] at C2
        rw [← hPt, ← hY]
        have hYl : Y.length = 32 := by rw [hY]; exact leftM_h32 m _ (leaves_h32 _) (by rw [List.length_map]; omega) (by rw [List.length_map]; omega)
        have hPb : Pt.length ≤ 20 := by rw [hPt, pathM_length _ _ _ _ _ (by rw [List.length_map]; omega)]; have := sizeM_le m n (((l.take p).map leafB).length); omega
        have i4 : (n : Int) < (p : Int) := by omega
        replace C1 := Lib.hid C1
        replace C2 := Lib.hid C2
        replace CH := Lib.hid CH
        have H := Lib.hid h
        have HL := Lib.hid (And.intro hYl (And.intro hPb (And.intro (show p ≤ N by omega) hN)))
        clear h h1 h2 hle hp hpl ht hd hp0 hpb hPt hY hYl hPb hcap ih hN hk
        go_enter Try.func54, Try.ntmps54
        go_wp2_with fail
        refine (CH.out _).mono ?_
        rintro e w2 ⟨rfl, rfl⟩
        obtain ⟨A, hA⟩ : ∃ A : Option Addr, A = if c0 = p then a0 else a0.map (·.add (p * 32)) := ⟨_, rfl⟩
        have hA' := Lib.hid hA
        clear hA
        have B1 : Hid (Below w2.heap.size w2 w2.drew) := Lib.hid (Below.refl _ w2).drew
        have H1 : Hid (Hs w2.drew (.slice a0 N c0) l) := Lib.hid (H.out.fresh B1.out)
        go_wp2_with fail
        refine pl_start 12 rfl (fun _ => True) (by kernel_rfl) ?_
        obtain ⟨w3, hw3⟩ : ∃ w3, w3 = w2.drew := ⟨_, rfl⟩
        rw [← hw3] at B1 H1 ⊢
        have Z3 : Hid (w3.heap.size = w2.heap.size) := Lib.hid (by rw [hw3]; rfl)
        clear hw3
        refine pl_take (i := 0) 15 rfl rfl rfl (by kernel_rfl) (by kernel_rfl) (by kernel_rfl) (by simp [Act.put]) trivial ?_
        apply Exists.intro
        refine And.intro (fun w' hS' => ?_) ?_
        · go_wp2
          exact ⟨trivial, rfl⟩
        refine pl_take (i := 1) 16 rfl rfl rfl (by kernel_rfl) (by kernel_rfl) (by kernel_rfl) (by simp [Act.put]) trivial ?_
        apply Exists.intro
        refine And.intro (fun w' hS' => ?_) ?_
        · go_wp2
          exact ⟨trivial, rfl⟩
        refine pl_take (i := 2) 17 rfl rfl rfl (by kernel_rfl) (by kernel_rfl) (by kernel_rfl) (by simp [Act.put]) trivial ?_
        apply Exists.intro
        refine And.intro (fun w' hS' => ?_) ?_
        · go_wp2
          exact ⟨trivial, rfl⟩
        refine pl_take (i := 3) 18 rfl rfl rfl (by kernel_rfl) (by kernel_rfl) (by kernel_rfl) (by simp [Act.put]) trivial ?_
        apply Exists.intro
        refine And.intro (fun w' hS' => ?_) ?_
        · refine wpList_slice rfl 22 (.tmp 16) _ _ _ rfl (.slice a0 p c0) (run_slice_to Try.underlying22 infoHash a0 N c0 p (by omega)) ?_
          go_wp2
          exact ⟨trivial, rfl⟩
        refine pl_take (i := 5) 20 rfl rfl rfl (by kernel_rfl) (by kernel_rfl) (by kernel_rfl) (by simp [Act.put]) trivial ?_
        apply Exists.intro
        refine And.intro (fun w' hS' => ?_) ?_
        · go_wp2
          exact ⟨trivial, rfl⟩
        refine pl_take (i := 6) 21 rfl rfl rfl (by kernel_rfl) (by kernel_rfl) (by kernel_rfl) (by simp [Act.put]) trivial ?_
        apply Exists.intro
        refine And.intro (fun w' hS' => ?_) ?_
        · go_wp2
          exact ⟨trivial, rfl⟩
        refine pl_take (i := 7) 22 rfl rfl rfl (by kernel_rfl) (by kernel_rfl) (by kernel_rfl) (by simp [Act.put]) trivial ?_
        apply Exists.intro
        refine And.intro (fun w' hS' => ?_) ?_
        · refine wpList_slice rfl 22 (.tmp 20) _ _ _ rfl (.slice A _ _) (by rw [hA'.out]; exact run_slice_from Try.underlying22 infoHash a0 N c0 p (by omega)) ?_
          go_wp2
          exact ⟨trivial, rfl⟩
        refine pl_heavy (i := 4) rfl (by kernel_rfl) ?_
        go_wp2_with fail
        refine (C1.out w3 _ (H1.out.take HL.out.2.2.2 p HL.out.2.2.1)).mono ?_
        rintro e w4 ⟨v4, rfl, o4, b4⟩
        have O4 : Hid (Ho w4 w2.heap.size v4 Pt) := Lib.hid (by rw [← Z3.out]; exact o4)
        have B4 := Lib.hid (B1.out.tr b4)
        have H4 := Lib.hid (H1.out.fresh b4)
        obtain ⟨a4, c4, rfl⟩ := o4.slice
        clear b4 o4 B1 H1
        go_wp2
        first
          | refine And.intro trivial ?_
          | skip
        refine pl_heavy (i := 8) rfl (by kernel_rfl) ?_
        go_wp2_with fail
        refine (C2.out w4 _ (by have := H4.out.drop HL.out.2.2.2 p HL.out.2.2.1; rw [← hA'.out] at this; exact this)).mono ?_
        rintro e w5 ⟨rfl, b5⟩
        have O5 := Lib.hid (O4.out.fresh b5)
        have B5 := Lib.hid (B4.out.tr b5)
        clear b5 O4 B4 H4
        go_wp2
        first
          | refine And.intro trivial ?_
          | skip
        refine pl_heavy (i := 9) rfl (by kernel_rfl) ?_
        refine wpList_buildH rfl 1 _ rfl ([Y]) (H32.one HL.out.1) rfl (by decide) (by decide) (by kernel_rfl) ?_
        intro w6 p6 b6 s6
        have O6 := Lib.hid (O5.out.fresh b6)
        have B6 := Lib.hid (B5.out.tr b6)
        have P6 := Lib.hid p6
        clear p6 b6 s6 O5 B5
        go_wp2
        first
          | refine And.intro trivial ?_
          | skip
        refine pl_heavy (i := 10) rfl (by kernel_rfl) ?_
        refine wpList_append_rd _ rfl (.tmp 19) (.tmp 24) 22 rfl w2.heap.size 24 i0 _ 32 32 Try.underlying22 hi hz0 hz1 hz2 (by simp [Value.cells]) (by decide) _ Pt.length (bvs Pt.flatten) rfl O6.out.2 _ 1 _ rfl P6.out.2 (bvs_one _) (by unfold maxLen; have := HL.out.2.1; omega) (by have := HL.out.2.1; omega) B6.out.size ?_
        intro v7 w7 hown7 hgr7 _ _
        have B7 : Hid (Below w2.heap.size w2 w7) := B6.out.grown hgr7 B6.out.size (fun j hj => (O6.out.2.lt j hj).1)
        have O7 : Hid (Ho w7 w2.heap.size v7 (Pt ++ [Y])) := Lib.hid ⟨O6.out.1.append P6.out.1, by rw [List.flatten_append, bvs_append, List.length_append]; exact hown7⟩
        clear hown7 hgr7 O6 B6 P6
        go_wp2
        first
          | refine And.intro trivial ?_
          | skip
        refine pl_heavy (i := 11) rfl (by kernel_rfl) ?_
        go_wp2
        first
          | refine And.intro trivial ?_
          | skip
        refine pl_done (by kernel_rfl) ?_
        go_wp2
        go_ret
        exact ⟨_, rfl, O7.out, B7.out⟩
      · rw [if_neg hk]
        obtain ⟨n', hn'⟩ : ∃ n', n' = n - p := ⟨_, rfl⟩
        rw [← hn']
        have C1 := fun w0 v0 h0 => ih w0 n' v0 (l.drop p) h0 (by omega) (by omega)
        have C2 := fun w0 v0 h0 => rleft_any m (by omega) w0 v0 (l.take p) h0 (by omega) (by omega)
        obtain ⟨Pt, hPt⟩ : ∃ x, x = pathM knotB [] m n' ((l.drop p).map leafB) := ⟨_, rfl⟩
        obtain ⟨Y, hY⟩ : ∃ Y, Y = leftM knotB [] m ((l.take p).map leafB) := ⟨_, rfl⟩
        rw [← hPt] at C1
        rw [← hY] at C2
        rw [← hPt, ← hY]
        have hYl : Y.length = 32 := by rw [hY]; exact leftM_h32 m _ (leaves_h32 _) (by rw [List.length_map]; omega) (by rw [List.length_map]; omega)
        have hPb : Pt.length ≤ 20 := by rw [hPt, pathM_length _ _ _ _ _ (by rw [List.length_map]; omega)]; have := sizeM_le m n' (((l.drop p).map leafB).length); omega
        have i4 : ¬ ((n : Int) < (p : Int)) := by omega
        have i5 : (n : Int) - (p : Int) = (n' : Int) := by omega
        have i6 : (n : Int) ≤ 2097152 := by omega
        replace C1 := Lib.hid C1
        replace C2 := Lib.hid C2
        replace CH := Lib.hid CH
        have H := Lib.hid h
        have HL := Lib.hid (And.intro hYl (And.intro hPb (And.intro (show p ≤ N by omega) hN)))
        clear h h1 h2 hle hp hpl ht hd hp0 hpb hPt hY hYl hPb hcap ih hN hk hn'
        go_enter Try.func54, Try.ntmps54
        go_wp2_with fail
        refine (CH.out _).mono ?_
        rintro e w2 ⟨rfl, rfl⟩
        obtain ⟨A, hA⟩ : ∃ A : Option Addr, A = if c0 = p then a0 else a0.map (·.add (p * 32)) := ⟨_, rfl⟩
        have hA' := Lib.hid hA
        clear hA
        have B1 : Hid (Below w2.heap.size w2 w2.drew) := Lib.hid (Below.refl _ w2).drew
        have H1 : Hid (Hs w2.drew (.slice a0 N c0) l) := Lib.hid (H.out.fresh B1.out)
        go_wp2_with fail
        refine pl_start 14 rfl (fun _ => True) (by kernel_rfl) ?_
        obtain ⟨w3, hw3⟩ : ∃ w3, w3 = w2.drew := ⟨_, rfl⟩
        rw [← hw3] at B1 H1 ⊢
        have Z3 : Hid (w3.heap.size = w2.heap.size) := Lib.hid (by rw [hw3]; rfl)
        clear hw3
        refine pl_take (i := 0) 26 rfl rfl rfl (by kernel_rfl) (by kernel_rfl) (by kernel_rfl) (by simp [Act.put]) trivial ?_
        apply Exists.intro
        refine And.intro (fun w' hS' => ?_) ?_
        · go_wp2
          exact ⟨trivial, rfl⟩
        refine pl_take (i := 1) 27 rfl rfl rfl (by kernel_rfl) (by kernel_rfl) (by kernel_rfl) (by simp [Act.put]) trivial ?_
        apply Exists.intro
        refine And.intro (fun w' hS' => ?_) ?_
        · go_wp2
          exact ⟨trivial, rfl⟩
        refine pl_take (i := 2) 28 rfl rfl rfl (by kernel_rfl) (by kernel_rfl) (by kernel_rfl) (by simp [Act.put]) trivial ?_
        apply Exists.intro
        refine And.intro (fun w' hS' => ?_) ?_
        · go_wp2
          exact ⟨trivial, rfl⟩
        refine pl_take (i := 3) 29 rfl rfl rfl (by kernel_rfl) (by kernel_rfl) (by kernel_rfl) (by simp [Act.put]) trivial ?_
        apply Exists.intro
        refine And.intro (fun w' hS' => ?_) ?_
        · go_wp2
          exact ⟨trivial, rfl⟩
        refine pl_take (i := 4) 30 rfl rfl rfl (by kernel_rfl) (by kernel_rfl) (by kernel_rfl) (by simp [Act.put]) trivial ?_
        apply Exists.intro
        refine And.intro (fun w' hS' => ?_) ?_
        · go_wp2
          exact ⟨trivial, rfl⟩
        refine pl_take (i := 5) 31 rfl rfl rfl (by kernel_rfl) (by kernel_rfl) (by kernel_rfl) (by simp [Act.put]) trivial ?_
        apply Exists.intro
        refine And.intro (fun w' hS' => ?_) ?_
        · refine wpList_slice rfl 22 (.tmp 29) _ _ _ rfl (.slice A _ _) (by rw [hA'.out]; exact run_slice_from Try.underlying22 infoHash a0 N c0 p (by omega)) ?_
          go_wp2
          exact ⟨trivial, rfl⟩
        refine pl_take (i := 7) 33 rfl rfl rfl (by kernel_rfl) (by kernel_rfl) (by kernel_rfl) (by simp [Act.put]) trivial ?_
        apply Exists.intro
        refine And.intro (fun w' hS' => ?_) ?_
        · go_wp2
          exact ⟨trivial, rfl⟩
        refine pl_take (i := 8) 34 rfl rfl rfl (by kernel_rfl) (by kernel_rfl) (by kernel_rfl) (by simp [Act.put]) trivial ?_
        apply Exists.intro
        refine And.intro (fun w' hS' => ?_) ?_
        · go_wp2
          exact ⟨trivial, rfl⟩
        refine pl_take (i := 9) 35 rfl rfl rfl (by kernel_rfl) (by kernel_rfl) (by kernel_rfl) (by simp [Act.put]) trivial ?_
        apply Exists.intro
        refine And.intro (fun w' hS' => ?_) ?_
        · refine wpList_slice rfl 22 (.tmp 33) _ _ _ rfl (.slice a0 p c0) (run_slice_to Try.underlying22 infoHash a0 N c0 p (by omega)) ?_
          go_wp2
          exact ⟨trivial, rfl⟩
        refine pl_heavy (i := 6) rfl (by kernel_rfl) ?_
        go_wp2_with fail
        refine (C1.out w3 _ (by have := H1.out.drop HL.out.2.2.2 p HL.out.2.2.1; rw [← hA'.out] at this; exact this)).mono ?_
        rintro e w4 ⟨v4, rfl, o4, b4⟩
        have O4 : Hid (Ho w4 w2.heap.size v4 Pt) := Lib.hid (by rw [← Z3.out]; exact o4)
        have B4 := Lib.hid (B1.out.tr b4)
        have H4 := Lib.hid (H1.out.fresh b4)
        obtain ⟨a4, c4, rfl⟩ := o4.slice
        clear b4 o4 B1 H1
        go_wp2
        first
          | refine And.intro trivial ?_
          | skip
        refine pl_heavy (i := 10) rfl (by kernel_rfl) ?_
        go_wp2_with fail
        refine (C2.out w4 _ (H4.out.take HL.out.2.2.2 p HL.out.2.2.1)).mono ?_
        rintro e w5 ⟨rfl, b5⟩
        have O5 := Lib.hid (O4.out.fresh b5)
        have B5 := Lib.hid (B4.out.tr b5)
        clear b5 O4 B4 H4
        go_wp2
        first
          | refine And.intro trivial ?_
          | skip
        refine pl_heavy (i := 11) rfl (by kernel_rfl) ?_
        refine wpList_buildH rfl 1 _ rfl ([Y]) (H32.one HL.out.1) rfl (by decide) (by decide) (by kernel_rfl) ?_
        intro w6 p6 b6 s6
        have O6 := Lib.hid (O5.out.fresh b6)
        have B6 := Lib.hid (B5.out.tr b6)
        have P6 := Lib.hid p6
        clear p6 b6 s6 O5 B5
        go_wp2
        first
          | refine And.intro trivial ?_
          | skip
        refine pl_heavy (i := 12) rfl (by kernel_rfl) ?_
        refine wpList_append_rd _ rfl (.tmp 32) (.tmp 37) 22 rfl w2.heap.size 24 i0 _ 32 32 Try.underlying22 hi hz0 hz1 hz2 (by simp [Value.cells]) (by decide) _ Pt.length (bvs Pt.flatten) rfl O6.out.2 _ 1 _ rfl P6.out.2 (bvs_one _) (by unfold maxLen; have := HL.out.2.1; omega) (by have := HL.out.2.1; omega) B6.out.size ?_
        intro v7 w7 hown7 hgr7 _ _
        have B7 : Hid (Below w2.heap.size w2 w7) := B6.out.grown hgr7 B6.out.size (fun j hj => (O6.out.2.lt j hj).1)
        have O7 : Hid (Ho w7 w2.heap.size v7 (Pt ++ [Y])) := Lib.hid ⟨O6.out.1.append P6.out.1, by rw [List.flatten_append, bvs_append, List.length_append]; exact hown7⟩
        clear hown7 hgr7 O6 B6 P6
        go_wp2
        first
          | refine And.intro trivial ?_
          | skip
        refine pl_heavy (i := 13) rfl (by kernel_rfl) ?_
        go_wp2
        first
          | refine And.intro trivial ?_
          | skip
        refine pl_done (by kernel_rfl) ?_
        go_wp2
        go_ret
        exact ⟨_, rfl, O7.out, B7.out⟩

end Go.Proofs.Ytbabjepblakboaa
