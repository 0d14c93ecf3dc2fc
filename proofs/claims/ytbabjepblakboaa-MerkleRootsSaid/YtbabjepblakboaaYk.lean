/- Merkle: what the reference says of a path: the walks. -/
import Derived.Test.YtbabjepblakboaaYj
namespace Go.Proofs.Ytbabjepblakboaa
set_option linter.unusedVariables false
set_option linter.unusedSimpArgs false
open Go.RowKit Go.Lib

theorem leadM_h32 (m n c : Nat) (a : Bs) (hs : List Bs) (ha : a.length = 32) : (leadM knotB [] m n c a hs).length = 32 := by
  induction m generalizing n c hs with
  | zero => exact ha
  | succ m ih =>
    rw [leadM]
    split
    · exact ih n c hs
    · split <;> exact knotB_length _ _

set_option maxRecDepth 100000 in
set_option maxHeartbeats 4000000 in
theorem rlead_any (m : Nat) (hm : m ≤ 20) : ∀ (w : World) (x : Bs) (n c : Nat) (v : Value) (hs : List Bs), x.length = 32 → Hs w v hs → n < c → c ≤ 2 ^ m → hs.length = sizeM m n c →
    Calls Try.prog 112 #[.agg (bvs x).toArray, .int .i64 (n : Int), .int .i64 (c : Int), v] w fun e w' => e = .returned (.agg (bvs (leadM knotB [] m n c (leafB x) hs)).toArray) ∧ Below w.heap.size w w' := by
  induction m with
  | zero =>
    intro w x n c v hs hx h h1 h2 h3
    have hc : c = 1 := by simp at h2; omega
    subst hc
    rw [show leadM knotB [] 0 n 1 (leafB x) hs = leafB x from rfl]
    obtain ⟨a0, c0, rfl⟩ := h.slice
    have hZl : Hid ((leafB x).length = 32) := Lib.hid (leafB_length x)
    have HX := Lib.hid hx
    obtain ⟨N, hN⟩ : ∃ N, N = hs.length := ⟨_, rfl⟩
    rw [← hN]
    clear h h1 h2 h3 hx hN
    go_enter Try.func112, Try.ntmps112
    go_wp2_with (with_reducible refine stopAt 13 ?_)
    refine Stop.go ?_
    obtain ⟨w1, h1, k1, b1, s1⟩ := alloc_cb w 24 (bvs x)
    obtain ⟨w2, h2, k2, b2, s2⟩ := alloc_cb w1 24 (bvs (List.replicate 32 0))
    change wpList _ _ _ _ _ ((w.alloc (.cells (bvs x).toArray 24)).alloc (.cells (bvs (List.replicate 32 0)).toArray 24))
    rw [← h1, ← h2]
    rw [s1] at k2
    have I2 := Lib.hid (k1.fresh b2)
    have K2 := Lib.hid k2
    have B2 := Lib.hid (b1.tr b2)
    clear h1 h2 k1 k2 b1 b2 s1 s2
    refine wpList_load_agg rfl 24 (.tmp 4) rfl (⟨w.heap.size, 0, none⟩) rfl (bvs x) _ (At.block I2.out).load Try.underlying24 rfl (by rw [bvs_length, HX.out]; exact infoHash) ?_
    go_wp2_with fail
    refine (rleaf_any w2 x HX.out).mono ?_
    rintro e w3 ⟨rfl, b3⟩
    have K3 := Lib.hid (K2.out.fresh b3)
    have B3 := Lib.hid (B2.out.tr b3)
    clear b3
    go_wp2_with (with_reducible refine stopStore 24 ?_)
    refine Stop.go ?_
    refine wpList_store_var rfl 24 (.tmp 8) (.tmp 14) rfl (w.heap.size + 1) _ rfl _ (bvs (leafB x)) rfl K3.out (by simp [hZl.out]) (bvs_one _) (by rw [bvs_length, hZl.out]; exact infoHash) ?_
    intro wf kf of
    have BF : Hid (Below w.heap.size w wf) := Below.only B3.out of (by omega)
    have KF := Lib.hid kf
    clear kf of
    go_wp2
    exact bodyPost_ret (results_cell1 rfl _ _ (w.heap.size + 1) _ _ _ _ rfl KF.out Try.underlying24 rfl (by simp [hZl.out, infoHash])) rfl ⟨rfl, BF.out⟩
  | succ m ih =>
    intro w x n c v hs hx h h1 h2 h3
    have ih := ih (by omega)
    rw [leadM]
    rw [sizeM] at h3
    by_cases hle : c ≤ 2 ^ m
    · rw [if_pos hle]
      rw [if_pos hle] at h3
      exact ih w x n c v hs hx h h1 hle h3
    · rw [if_neg hle]
      rw [if_neg hle] at h3
      obtain ⟨a0, c0, rfl⟩ := h.slice
      obtain ⟨p, hp⟩ : ∃ p, p = 2 ^ m := ⟨_, rfl⟩
      have CH := fun w0 => half_any w0 m c (by omega) h2 (by omega)
      have hpl : 2 ^ (m + 1) = p * 2 := by rw [hp, Nat.pow_succ]
      rw [← hp] at hle CH ih h3 ⊢
      have hp0 : 0 < p := by rw [hp]; exact Nat.pow_pos (by decide)
      have hpb : p ≤ 1048576 := by rw [hp]; exact Nat.pow_le_pow_right (by decide) (show m ≤ 20 by omega)
      have hcap := h.cap
      have i1 : ¬ ((c : Int) ≤ 1) := by omega
      obtain ⟨s, hs'⟩ : ∃ s, hs.length = 1 + s := by
        split at h3
        · exact ⟨_, h3⟩
        · exact ⟨_, h3⟩
      rw [hs'] at h3
      obtain ⟨y, hy⟩ : ∃ y, hs[s]? = some y := ⟨_, List.getElem?_eq_getElem (by omega)⟩
      have hy32 := h.1.get hy
      rw [show hs.length - 1 = s by omega]
      rw [show hs.getD s [] = y by rw [List.getD_eq_getElem?_getD, hy]; rfl]
      have htk : (hs.take s).length = s := by rw [List.length_take]; omega
      have hsb : s ≤ 20 := by
        split at h3
        · have := sizeM_le m n p; omega
        · have := sizeM_le m (n - p) (c - p); omega
      by_cases hk : n < p
      · rw [if_pos hk] at h3 ⊢
        have CI := fun w0 v0 h0 => ih w0 x n p v0 (hs.take s) hx h0 hk (Nat.le_refl _) (by omega)
        have i2 : (n : Int) < (p : Int) := by omega
        obtain ⟨X, hX⟩ : ∃ X, X = leadM knotB [] m n p (leafB x) (hs.take s) := ⟨_, rfl⟩
        rw [← hX] at CI ⊢
        have hXl : X.length = 32 := by rw [hX]; exact leadM_h32 _ _ _ _ _ (leafB_length x)
        have hZl : Hid ((knotB X y).length = 32) := Lib.hid (knotB_length _ _)
        obtain ⟨N, hN⟩ : ∃ N, N = hs.length := ⟨_, rfl⟩
        rw [← hN] at h hcap ⊢
        obtain ⟨ad, c9, he⟩ := h.isSome hN.symm (by omega)
        simp only [Value.slice.injEq, true_and] at he
        obtain ⟨rfl, rfl⟩ := he
        have i3 : (N : Int) - 1 = (s : Int) := by omega
        have i5 : (s : Int) < (N : Int) := by omega
        have i6 : (N : Int) ≤ 21 := by omega
        have i7 : (s : Int) ≤ (c0 : Int) := by omega
        replace CI := Lib.hid CI
        replace CH := Lib.hid CH
        have H := Lib.hid h
        have HX := Lib.hid (And.intro hx (And.intro hXl (And.intro hy hy32)))
        have HN := Lib.hid (And.intro hN (And.intro (show s ≤ N by omega) (show s ≤ c0 by omega)))
        clear h h1 h2 h3 hle hp hpl hp0 hpb hcap ih hs' hy hy32 htk hsb hX hXl hN hx hk
        go_enter Try.func112, Try.ntmps112
        go_wp2_with fail
        obtain ⟨w1, h1, k1, b1, s1⟩ := alloc_cb w 24 (bvs x)
        obtain ⟨w2, h2, k2, b2, s2⟩ := alloc_cb w1 24 (bvs (List.replicate 32 0))
        change Calls _ _ _ ((w.alloc (.cells (bvs x).toArray 24)).alloc (.cells (bvs (List.replicate 32 0)).toArray 24)) _
        rw [← h1, ← h2]
        rw [s1] at k2
        refine (CH.out _).mono ?_
        rintro e w3 ⟨rfl, rfl⟩
        have I3 := Lib.hid (k1.fresh b2)
        have K3 := Lib.hid k2
        have B3 := Lib.hid (b1.tr b2)
        clear h1 h2 k1 k2 b1 b2 s1 s2
        go_wp2_with fail
        have hS : Hid (CB w3.drew 24 w.heap.size (bvs x) ∧ Hs w3.drew (.slice (some ad) N c0) hs) := Lib.hid ⟨I3.out, H.out.fresh B3.out.drew⟩
        refine pl_start 13 rfl (fun w' => CB w' 24 w.heap.size (bvs x) ∧ Hs w' (.slice (some ad) N c0) hs) (by kernel_rfl) ?_
        obtain ⟨w4, hw4⟩ : ∃ w4, w4 = w3.drew := ⟨_, rfl⟩
        have K4 : Hid (CB w4 24 (w.heap.size + 1) (bvs (List.replicate 32 0))) := Lib.hid (by rw [hw4]; exact K3.out)
        have B4 : Hid (Below w.heap.size w w4) := Lib.hid (by rw [hw4]; exact B3.out.drew)
        rw [← hw4] at hS ⊢
        clear hw4 I3 K3 B3
        refine pl_take (i := 0) 23 rfl rfl rfl (by kernel_rfl) (by kernel_rfl) (by kernel_rfl) (by simp [Act.put]) hS.out ?_
        apply Exists.intro
        refine And.intro (fun w' hS' => ?_) ?_
        · refine wpList_load_agg rfl 24 (.tmp 4) rfl (⟨w.heap.size, 0, none⟩) rfl (bvs x) _ ((At.block hS'.1).load) Try.underlying24 rfl (by rw [bvs_length, HX.out.1]; exact infoHash) ?_
          go_wp2
          exact ⟨trivial, rfl⟩
        refine pl_take (i := 1) 24 rfl rfl rfl (by kernel_rfl) (by kernel_rfl) (by kernel_rfl) (by simp [Act.put]) hS.out ?_
        apply Exists.intro
        refine And.intro (fun w' hS' => ?_) ?_
        · go_wp2
          exact ⟨trivial, rfl⟩
        refine pl_take (i := 2) 25 rfl rfl rfl (by kernel_rfl) (by kernel_rfl) (by kernel_rfl) (by simp [Act.put]) hS.out ?_
        apply Exists.intro
        refine And.intro (fun w' hS' => ?_) ?_
        · go_wp2
          exact ⟨trivial, rfl⟩
        refine pl_take (i := 3) 26 rfl rfl rfl (by kernel_rfl) (by kernel_rfl) (by kernel_rfl) (by simp [Act.put]) hS.out ?_
        apply Exists.intro
        refine And.intro (fun w' hS' => ?_) ?_
        · go_wp2
          exact ⟨trivial, rfl⟩
        refine pl_take (i := 4) 27 rfl rfl rfl (by kernel_rfl) (by kernel_rfl) (by kernel_rfl) (by simp [Act.put]) hS.out ?_
        apply Exists.intro
        refine And.intro (fun w' hS' => ?_) ?_
        · go_wp2
          exact ⟨trivial, rfl⟩
        refine pl_take (i := 5) 28 rfl rfl rfl (by kernel_rfl) (by kernel_rfl) (by kernel_rfl) (by simp [Act.put]) hS.out ?_
        apply Exists.intro
        refine And.intro (fun w' hS' => ?_) ?_
        · clear hS'
          refine wpList_slice rfl 22 (.tmp 26) _ _ _ rfl (.slice (some ad) s c0) (run_slice_to Try.underlying22 infoHash (some ad) N c0 s (by have := HN.out.2.2; omega)) ?_
          go_wp2
          exact ⟨trivial, rfl⟩
        refine pl_take (i := 7) 30 rfl rfl rfl (by kernel_rfl) (by kernel_rfl) (by kernel_rfl) (by simp [Act.put]) hS.out ?_
        apply Exists.intro
        refine And.intro (fun w' hS' => ?_) ?_
        · go_wp2
          exact ⟨trivial, rfl⟩
        refine pl_take (i := 8) 31 rfl rfl rfl (by kernel_rfl) (by kernel_rfl) (by kernel_rfl) (by simp [Act.put]) hS.out ?_
        apply Exists.intro
        refine And.intro (fun w' hS' => ?_) ?_
        · go_wp2
          exact ⟨trivial, rfl⟩
        refine pl_take (i := 9) 32 rfl rfl rfl (by kernel_rfl) (by kernel_rfl) (by kernel_rfl) (by simp [Act.put]) hS.out ?_
        apply Exists.intro
        refine And.intro (fun w' hS' => ?_) ?_
        · clear hS'
          go_wp2
          exact ⟨trivial, rfl⟩
        refine pl_take (i := 10) 33 rfl rfl rfl (by kernel_rfl) (by kernel_rfl) (by kernel_rfl) (by simp [Act.put]) hS.out ?_
        apply Exists.intro
        refine And.intro (fun w' hS' => ?_) ?_
        · refine wpList_load_agg rfl 24 (.tmp 32) rfl (ad.add (s * 32)) rfl (bvs y) _ (hS'.2.elem' HX.out.2.2.1) Try.underlying24 rfl (by rw [bvs_length, HX.out.2.2.2]; exact infoHash) ?_
          go_wp2
          exact ⟨trivial, rfl⟩
        refine pl_heavy (i := 6) rfl (by kernel_rfl) ?_
        go_wp2_with fail
        refine (CI.out w4 _ (hS.out.2.take HN.out.1 s HN.out.2.1)).mono ?_
        rintro e w5 ⟨rfl, b5⟩
        have S5 := Lib.hid (And.intro (hS.out.1.fresh b5) (hS.out.2.fresh b5))
        have K5 := Lib.hid (K4.out.fresh b5)
        have B5 := Lib.hid (B4.out.tr b5)
        clear b5 hS K4 B4
        go_wp2
        refine And.intro S5.out ?_
        refine pl_heavy (i := 11) rfl (by kernel_rfl) ?_
        go_wp2_with fail
        refine (rknot_any w5 X y HX.out.2.1 HX.out.2.2.2).mono ?_
        rintro e w6 ⟨rfl, b6⟩
        have S6 := Lib.hid (And.intro (S5.out.1.fresh b6) (S5.out.2.fresh b6))
        have K6 := Lib.hid (K5.out.fresh b6)
        have B6 := Lib.hid (B5.out.tr b6)
        clear b6 S5 K5 B5
        go_wp2
        refine And.intro S6.out ?_
        refine pl_heavy (i := 12) rfl (by kernel_rfl) ?_
        refine wpList_store_var rfl 24 (.tmp 8) (.tmp 34) rfl (w.heap.size + 1) _ rfl _ (bvs (knotB X y)) rfl K6.out (by simp [hZl.out]) (bvs_one _) (by rw [bvs_length, hZl.out]; exact infoHash) ?_
        intro wf kf of
        have BF : Hid (Below w.heap.size w wf) := Below.only B6.out of (by omega)
        have KF := Lib.hid kf
        clear kf
        have hb : ∀ k, (Value.slice (some ad) N c0).ownBlock = some k → k < w.heap.size := fun k hk => by
          have := H.out.own_lt (by rw [← HN.out.1]; omega) hk
          exact this
        have SF : Hid (CB wf 24 w.heap.size (bvs x) ∧ Hs wf (.slice (some ad) N c0) hs) := Lib.hid ⟨S6.out.1.only of (by omega), S6.out.2.only of (fun e => by have := hb _ e; omega)⟩
        clear of hb
        go_wp2
        refine And.intro SF.out ?_
        refine pl_done (by kernel_rfl) ?_
        go_wp2
        exact bodyPost_ret (results_cell1 rfl _ _ (w.heap.size + 1) _ _ _ _ rfl KF.out Try.underlying24 rfl (by simp [hZl.out, infoHash])) rfl ⟨rfl, BF.out⟩
      · rw [if_neg hk] at h3 ⊢
        obtain ⟨n', hn'⟩ : ∃ n', n' = n - p := ⟨_, rfl⟩
        obtain ⟨c', hc'⟩ : ∃ c', c' = c - p := ⟨_, rfl⟩
        rw [← hn', ← hc'] at h3 ⊢
        have CI := fun w0 v0 h0 => ih w0 x n' c' v0 (hs.take s) hx h0 (by omega) (by omega) (by omega)
        have i2 : ¬ ((n : Int) < (p : Int)) := by omega
        have i8 : (n : Int) - (p : Int) = (n' : Int) := by omega
        have i9 : (c : Int) - (p : Int) = (c' : Int) := by omega
        have i10 : (n : Int) ≤ 2097152 := by omega
        have i11 : (c : Int) ≤ 2097152 := by omega
        obtain ⟨X, hX⟩ : ∃ X, X = leadM knotB [] m n' c' (leafB x) (hs.take s) := ⟨_, rfl⟩
        rw [← hX] at CI ⊢
        have hXl : X.length = 32 := by rw [hX]; exact leadM_h32 _ _ _ _ _ (leafB_length x)
        have hZl : Hid ((knotB y X).length = 32) := Lib.hid (knotB_length _ _)
        obtain ⟨N, hN⟩ : ∃ N, N = hs.length := ⟨_, rfl⟩
        rw [← hN] at h hcap ⊢
        obtain ⟨ad, c9, he⟩ := h.isSome hN.symm (by omega)
        simp only [Value.slice.injEq, true_and] at he
        obtain ⟨rfl, rfl⟩ := he
        have i3 : (N : Int) - 1 = (s : Int) := by omega
        have i5 : (s : Int) < (N : Int) := by omega
        have i6 : (N : Int) ≤ 21 := by omega
        have i7 : (s : Int) ≤ (c0 : Int) := by omega
        replace CI := Lib.hid CI
        replace CH := Lib.hid CH
        have H := Lib.hid h
        have HX := Lib.hid (And.intro hx (And.intro hXl (And.intro hy hy32)))
        have HN := Lib.hid (And.intro hN (And.intro (show s ≤ N by omega) (show s ≤ c0 by omega)))
        clear h h1 h2 h3 hle hp hpl hp0 hpb hcap ih hs' hy hy32 htk hsb hX hXl hN hx hk hn' hc'
        go_enter Try.func112, Try.ntmps112
        go_wp2_with fail
        obtain ⟨w1, h1, k1, b1, s1⟩ := alloc_cb w 24 (bvs x)
        obtain ⟨w2, h2, k2, b2, s2⟩ := alloc_cb w1 24 (bvs (List.replicate 32 0))
        change Calls _ _ _ ((w.alloc (.cells (bvs x).toArray 24)).alloc (.cells (bvs (List.replicate 32 0)).toArray 24)) _
        rw [← h1, ← h2]
        rw [s1] at k2
        refine (CH.out _).mono ?_
        rintro e w3 ⟨rfl, rfl⟩
        have I3 := Lib.hid (k1.fresh b2)
        have K3 := Lib.hid k2
        have B3 := Lib.hid (b1.tr b2)
        clear h1 h2 k1 k2 b1 b2 s1 s2
        go_wp2_with fail
        have hS : Hid (CB w3.drew 24 w.heap.size (bvs x) ∧ Hs w3.drew (.slice (some ad) N c0) hs) := Lib.hid ⟨I3.out, H.out.fresh B3.out.drew⟩
        refine pl_start 17 rfl (fun w' => CB w' 24 w.heap.size (bvs x) ∧ Hs w' (.slice (some ad) N c0) hs) (by kernel_rfl) ?_
        obtain ⟨w4, hw4⟩ : ∃ w4, w4 = w3.drew := ⟨_, rfl⟩
        have K4 : Hid (CB w4 24 (w.heap.size + 1) (bvs (List.replicate 32 0))) := Lib.hid (by rw [hw4]; exact K3.out)
        have B4 : Hid (Below w.heap.size w w4) := Lib.hid (by rw [hw4]; exact B3.out.drew)
        rw [← hw4] at hS ⊢
        clear hw4 I3 K3 B3
        refine pl_take (i := 0) 35 rfl rfl rfl (by kernel_rfl) (by kernel_rfl) (by kernel_rfl) (by simp [Act.put]) hS.out ?_
        apply Exists.intro
        refine And.intro (fun w' hS' => ?_) ?_
        · go_wp2
          exact ⟨trivial, rfl⟩
        refine pl_take (i := 1) 36 rfl rfl rfl (by kernel_rfl) (by kernel_rfl) (by kernel_rfl) (by simp [Act.put]) hS.out ?_
        apply Exists.intro
        refine And.intro (fun w' hS' => ?_) ?_
        · go_wp2
          exact ⟨trivial, rfl⟩
        refine pl_take (i := 2) 37 rfl rfl rfl (by kernel_rfl) (by kernel_rfl) (by kernel_rfl) (by simp [Act.put]) hS.out ?_
        apply Exists.intro
        refine And.intro (fun w' hS' => ?_) ?_
        · clear hS'
          go_wp2
          exact ⟨trivial, rfl⟩
        refine pl_take (i := 3) 38 rfl rfl rfl (by kernel_rfl) (by kernel_rfl) (by kernel_rfl) (by simp [Act.put]) hS.out ?_
        apply Exists.intro
        refine And.intro (fun w' hS' => ?_) ?_
        · refine wpList_load_agg rfl 24 (.tmp 37) rfl (ad.add (s * 32)) rfl (bvs y) _ (hS'.2.elem' HX.out.2.2.1) Try.underlying24 rfl (by rw [bvs_length, HX.out.2.2.2]; exact infoHash) ?_
          go_wp2
          exact ⟨trivial, rfl⟩
        refine pl_take (i := 4) 39 rfl rfl rfl (by kernel_rfl) (by kernel_rfl) (by kernel_rfl) (by simp [Act.put]) hS.out ?_
        apply Exists.intro
        refine And.intro (fun w' hS' => ?_) ?_
        · refine wpList_load_agg rfl 24 (.tmp 4) rfl (⟨w.heap.size, 0, none⟩) rfl (bvs x) _ ((At.block hS'.1).load) Try.underlying24 rfl (by rw [bvs_length, HX.out.1]; exact infoHash) ?_
          go_wp2
          exact ⟨trivial, rfl⟩
        refine pl_take (i := 5) 40 rfl rfl rfl (by kernel_rfl) (by kernel_rfl) (by kernel_rfl) (by simp [Act.put]) hS.out ?_
        apply Exists.intro
        refine And.intro (fun w' hS' => ?_) ?_
        · go_wp2
          exact ⟨trivial, rfl⟩
        refine pl_take (i := 6) 41 rfl rfl rfl (by kernel_rfl) (by kernel_rfl) (by kernel_rfl) (by simp [Act.put]) hS.out ?_
        apply Exists.intro
        refine And.intro (fun w' hS' => ?_) ?_
        · go_wp2
          exact ⟨trivial, rfl⟩
        refine pl_take (i := 7) 42 rfl rfl rfl (by kernel_rfl) (by kernel_rfl) (by kernel_rfl) (by simp [Act.put]) hS.out ?_
        apply Exists.intro
        refine And.intro (fun w' hS' => ?_) ?_
        · go_wp2
          exact ⟨trivial, rfl⟩
        refine pl_take (i := 8) 43 rfl rfl rfl (by kernel_rfl) (by kernel_rfl) (by kernel_rfl) (by simp [Act.put]) hS.out ?_
        apply Exists.intro
        refine And.intro (fun w' hS' => ?_) ?_
        · go_wp2
          exact ⟨trivial, rfl⟩
        refine pl_take (i := 9) 44 rfl rfl rfl (by kernel_rfl) (by kernel_rfl) (by kernel_rfl) (by simp [Act.put]) hS.out ?_
        apply Exists.intro
        refine And.intro (fun w' hS' => ?_) ?_
        · go_wp2
          exact ⟨trivial, rfl⟩
        refine pl_take (i := 10) 45 rfl rfl rfl (by kernel_rfl) (by kernel_rfl) (by kernel_rfl) (by simp [Act.put]) hS.out ?_
        apply Exists.intro
        refine And.intro (fun w' hS' => ?_) ?_
        · go_wp2
          exact ⟨trivial, rfl⟩
        refine pl_take (i := 11) 46 rfl rfl rfl (by kernel_rfl) (by kernel_rfl) (by kernel_rfl) (by simp [Act.put]) hS.out ?_
        apply Exists.intro
        refine And.intro (fun w' hS' => ?_) ?_
        · go_wp2
          exact ⟨trivial, rfl⟩
        refine pl_take (i := 12) 47 rfl rfl rfl (by kernel_rfl) (by kernel_rfl) (by kernel_rfl) (by simp [Act.put]) hS.out ?_
        apply Exists.intro
        refine And.intro (fun w' hS' => ?_) ?_
        · go_wp2
          exact ⟨trivial, rfl⟩
        refine pl_take (i := 13) 48 rfl rfl rfl (by kernel_rfl) (by kernel_rfl) (by kernel_rfl) (by simp [Act.put]) hS.out ?_
        apply Exists.intro
        refine And.intro (fun w' hS' => ?_) ?_
        · clear hS'
          refine wpList_slice rfl 22 (.tmp 46) _ _ _ rfl (.slice (some ad) s c0) (run_slice_to Try.underlying22 infoHash (some ad) N c0 s (by have := HN.out.2.2; omega)) ?_
          go_wp2
          exact ⟨trivial, rfl⟩
        refine pl_heavy (i := 14) rfl (by kernel_rfl) ?_
        go_wp2_with fail
        refine (CI.out w4 _ (hS.out.2.take HN.out.1 s HN.out.2.1)).mono ?_
        rintro e w5 ⟨rfl, b5⟩
        have S5 := Lib.hid (And.intro (hS.out.1.fresh b5) (hS.out.2.fresh b5))
        have K5 := Lib.hid (K4.out.fresh b5)
        have B5 := Lib.hid (B4.out.tr b5)
        clear b5 hS K4 B4
        go_wp2
        refine And.intro S5.out ?_
        refine pl_heavy (i := 15) rfl (by kernel_rfl) ?_
        go_wp2_with fail
        refine (rknot_any w5 y X HX.out.2.2.2 HX.out.2.1).mono ?_
        rintro e w6 ⟨rfl, b6⟩
        have S6 := Lib.hid (And.intro (S5.out.1.fresh b6) (S5.out.2.fresh b6))
        have K6 := Lib.hid (K5.out.fresh b6)
        have B6 := Lib.hid (B5.out.tr b6)
        clear b6 S5 K5 B5
        go_wp2
        refine And.intro S6.out ?_
        refine pl_heavy (i := 16) rfl (by kernel_rfl) ?_
        refine wpList_store_var rfl 24 (.tmp 8) (.tmp 50) rfl (w.heap.size + 1) _ rfl _ (bvs (knotB y X)) rfl K6.out (by simp [hZl.out]) (bvs_one _) (by rw [bvs_length, hZl.out]; exact infoHash) ?_
        intro wf kf of
        have BF : Hid (Below w.heap.size w wf) := Below.only B6.out of (by omega)
        have KF := Lib.hid kf
        clear kf
        have hb : ∀ k, (Value.slice (some ad) N c0).ownBlock = some k → k < w.heap.size := fun k hk => by
          have := H.out.own_lt (by rw [← HN.out.1]; omega) hk
          exact this
        have SF : Hid (CB wf 24 w.heap.size (bvs x) ∧ Hs wf (.slice (some ad) N c0) hs) := Lib.hid ⟨S6.out.1.only of (by omega), S6.out.2.only of (fun e => by have := hb _ e; omega)⟩
        clear of hb
        go_wp2
        refine And.intro SF.out ?_
        refine pl_done (by kernel_rfl) ?_
        go_wp2
        exact bodyPost_ret (results_cell1 rfl _ _ (w.heap.size + 1) _ _ _ _ rfl KF.out Try.underlying24 rfl (by simp [hZl.out, infoHash])) rfl ⟨rfl, BF.out⟩

end Go.Proofs.Ytbabjepblakboaa
