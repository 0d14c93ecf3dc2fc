/- Merkle: the reference's roots and paths: the walks. -/
import Derived.Test.YtbabjepblakboaaYh
namespace Go.Proofs.Ytbabjepblakboaa
set_option linter.unusedVariables false
set_option linter.unusedSimpArgs false
open Go.RowKit Go.Lib

theorem Hs.take {w : World} {a : Option Addr} {n c : Nat} {l : List Bs} (h : Hs w (.slice a n c) l) (hn : n = l.length) (k : Nat) (hk : k ≤ n) : Hs w (.slice a k c) (l.take k) := by
  have h1 := h.part hn 0 k (by omega)
  have h2 : (if c = 0 then a else a.map (·.add (0 * 32))) = a := by
    rw [Nat.zero_mul]
    split
    · rfl
    · cases a <;> rfl
  rw [h2, Nat.sub_zero, List.drop_zero] at h1
  exact h1

theorem Hs.drop {w : World} {a : Option Addr} {n c : Nat} {l : List Bs} (h : Hs w (.slice a n c) l) (hn : n = l.length) (o : Nat) (ho : o ≤ n) : Hs w (.slice (if c = o then a else a.map (·.add (o * 32))) (n - o) (c - o)) (l.drop o) := by
  have h1 := h.part hn o (n - o) (by omega)
  rwa [List.take_of_length_le (by rw [List.length_drop]; omega)] at h1

theorem Hs.cap {w : World} {a : Option Addr} {n c : Nat} {l : List Bs} (h : Hs w (.slice a n c) l) : n ≤ c := by
  rcases h.2.2 with ⟨he, h0⟩ | ⟨ad, c', he, h1, h2, _⟩
  · simp only [Value.slice.injEq] at he
    omega
  · simp only [Value.slice.injEq] at he
    obtain ⟨_, rfl, rfl⟩ := he
    exact h1

theorem leftM_h32 (m : Nat) (l : List Bs) (h : H32 l) (h1 : 1 ≤ l.length) (h2 : l.length ≤ 2 ^ m) : (leftM knotB [] m l).length = 32 := by
  have h3 := upN_left knotB [] m l h1 h2
  have h4 := upN_h32 h m
  rw [h3] at h4
  exact h4 _ (by simp)

set_option maxRecDepth 100000 in
set_option maxHeartbeats 1000000 in
theorem rleft_any (m : Nat) (hm : m ≤ 20) : ∀ (w : World) (v : Value) (l : List Bs), Hs w v l → 1 ≤ l.length → l.length ≤ 2 ^ m →
    Calls Try.prog 108 #[v] w fun e w' => e = .returned (.agg (bvs (leftM knotB [] m (l.map leafB))).toArray) ∧ Below w.heap.size w w' := by
  induction m with
  | zero =>
    intro w v l h h1 h2
    have hl : l.length = 1 := by simp at h2; omega
    obtain ⟨x, rfl⟩ := List.length_eq_one_iff.1 hl
    obtain ⟨ad, c, rfl⟩ := h.isSome (n := 1) rfl (by decide)
    have hx := Lib.hid (h.1.get (i := 0) rfl)
    have hc : Hid (∀ j u, (bvs x)[j]? = some u → w.cell? (ad.add j) = some u) := Lib.hid (by have := h.elem' (i := 0) rfl; simpa [Addr.add] using this)
    have hZl : Hid ((leafB x).length = 32) := Lib.hid (leafB_length x)
    show Calls _ _ _ _ fun e w' => e = .returned (.agg (bvs (leafB x)).toArray) ∧ _
    clear h h1 h2 hl
    go_enter Try.func108, Try.ntmps108
    go_wp2_with (with_reducible refine stopAt 9 ?_)
    refine Stop.go ?_
    obtain ⟨w1, h1, k1, b1, s1⟩ := alloc_cb w 24 (bvs (List.replicate 32 0))
    change wpList _ _ _ _ _ (w.alloc (.cells (bvs (List.replicate 32 0)).toArray 24))
    rw [← h1]
    have K1 := Lib.hid k1
    have B1 := Lib.hid b1
    have C1 : Hid (∀ j u, (bvs x)[j]? = some u → w1.cell? (ad.add j) = some u) := Lib.hid (fun j u hj => by
      have h0 := hc.out j u hj
      rw [b1.cell (p := ad.add j) (block_lt_of_cell h0)]
      exact h0)
    clear h1 k1 b1 s1
    refine wpList_load_agg rfl 24 (.tmp 8) rfl (ad) rfl (bvs x) _ C1.out Try.underlying24 rfl (by rw [bvs_length, hx.out]; exact infoHash) ?_
    go_wp2_with fail
    refine (rleaf_any w1 x hx.out).mono ?_
    rintro e w2 ⟨rfl, b2⟩
    have K2 := Lib.hid (K1.out.fresh b2)
    have B2 := Lib.hid (B1.out.tr b2)
    clear b2
    go_wp2_with (with_reducible refine stopStore 24 ?_)
    refine Stop.go ?_
    refine wpList_store_var rfl 24 (.tmp 2) (.tmp 10) rfl (w.heap.size) _ rfl _ (bvs (leafB x)) rfl K2.out (by simp [hZl.out]) (bvs_one _) (by rw [bvs_length, hZl.out]; exact infoHash) ?_
    intro wf kf of
    have BF : Hid (Below w.heap.size w wf) := Below.only B2.out of (by omega)
    have KF := Lib.hid kf
    clear kf of
    go_wp2
    exact bodyPost_ret (results_cell1 rfl _ _ (w.heap.size) _ _ _ _ rfl KF.out Try.underlying24 rfl (by simp [hZl.out, infoHash])) rfl ⟨rfl, BF.out⟩
  | succ m ih =>
    intro w v l h h1 h2
    have ih := ih (by omega)
    rw [leftM]
    by_cases hle : l.length ≤ 2 ^ m
    · rw [if_pos (by rw [List.length_map]; exact hle)]
      exact ih w v l h h1 hle
    · rw [if_neg (by rw [List.length_map]; exact hle), ← List.map_take, ← List.map_drop]
      obtain ⟨a0, c0, rfl⟩ := h.slice
      obtain ⟨N, hN⟩ : ∃ N, N = l.length := ⟨_, rfl⟩
      rw [← hN] at h h1 h2 hle ⊢
      obtain ⟨p, hp⟩ : ∃ p, p = 2 ^ m := ⟨_, rfl⟩
      have CH := fun w0 => half_any w0 m N (by omega) h2 (by omega)
      rw [← hp] at hle CH ⊢
      have hpl : 2 ^ (m + 1) = p * 2 := by rw [hp, Nat.pow_succ]
      have ht : (l.take p).length = p := by rw [List.length_take]; omega
      have hd : (l.drop p).length = N - p := by rw [List.length_drop, hN]
      have hp0 : 0 < p := by rw [hp]; exact Nat.pow_pos (by decide)
      have C1 := fun w0 v0 h0 => ih w0 v0 (l.take p) h0 (by omega) (by omega)
      have C2 := fun w0 v0 h0 => ih w0 v0 (l.drop p) h0 (by omega) (by omega)
      obtain ⟨X, hX⟩ : ∃ X, X = leftM knotB [] m ((l.take p).map leafB) := ⟨_, rfl⟩
      obtain ⟨Y, hY⟩ : ∃ Y, Y = leftM knotB [] m ((l.drop p).map leafB) := ⟨_, rfl⟩
      rw [← hX] at C1
      rw [← hY] at C2
      rw [← hX, ← hY]
      have hXl : X.length = 32 := by rw [hX]; exact leftM_h32 m _ (leaves_h32 _) (by rw [List.length_map]; omega) (by rw [List.length_map]; omega)
      have hYl : Y.length = 32 := by rw [hY]; exact leftM_h32 m _ (leaves_h32 _) (by rw [List.length_map]; omega) (by rw [List.length_map]; omega)
      have bN : N ≤ 1048576 := by
        have := Nat.pow_le_pow_right (n := 2) (by decide) (show m + 1 ≤ 20 from hm)
        omega
      have hZl : Hid ((knotB X Y).length = 32) := Lib.hid (knotB_length _ _)
      have hcap := h.cap
      have i1 : ¬ ((N : Int) = 1) := by omega
      have i2 : (p : Int) ≤ (N : Int) := by omega
      have i3 : (N : Int) ≤ (c0 : Int) := by omega
      replace C1 := Lib.hid C1
      replace C2 := Lib.hid C2
      replace CH := Lib.hid CH
      have H := Lib.hid h
      have HL := Lib.hid (And.intro hXl (And.intro hYl (And.intro (show p ≤ N by omega) hN)))
      clear h h1 h2 hle hp hpl ht hd hp0 hX hY hXl hYl bN hcap ih hN
      go_enter Try.func108, Try.ntmps108
      go_wp2_with fail
      obtain ⟨w1, h1, k1, b1, s1⟩ := alloc_cb w 24 (bvs (List.replicate 32 0))
      change Calls _ _ _ (w.alloc (.cells (bvs (List.replicate 32 0)).toArray 24)) _
      rw [← h1]
      refine (CH.out _).mono ?_
      rintro e w2 ⟨rfl, rfl⟩
      have K1 : Hid (CB w2.drew 24 w.heap.size (bvs (List.replicate 32 0))) := Lib.hid k1
      have B1 : Hid (Below w.heap.size w w2.drew) := Lib.hid b1.drew
      have H1 : Hid (Hs w2.drew (.slice a0 N c0) l) := Lib.hid (H.out.fresh B1.out)
      clear h1 k1 b1 s1
      obtain ⟨A, hA⟩ : ∃ A : Option Addr, A = if c0 = p then a0 else a0.map (·.add (p * 32)) := ⟨_, rfl⟩
      have hA' := Lib.hid hA
      clear hA
      go_wp2_with fail
      refine pl_start 10 rfl (fun _ => True) (by kernel_rfl) ?_
      obtain ⟨w3, hw3⟩ : ∃ w3, w3 = w2.drew := ⟨_, rfl⟩
      rw [← hw3] at K1 B1 H1 ⊢
      clear hw3
      refine pl_take (i := 0) 14 rfl rfl rfl (by kernel_rfl) (by kernel_rfl) (by kernel_rfl) (by simp [Act.put]) trivial ?_
      apply Exists.intro
      refine And.intro (fun w' hS' => ?_) ?_
      · go_wp2
        exact ⟨trivial, rfl⟩
      refine pl_take (i := 1) 15 rfl rfl rfl (by kernel_rfl) (by kernel_rfl) (by kernel_rfl) (by simp [Act.put]) trivial ?_
      apply Exists.intro
      refine And.intro (fun w' hS' => ?_) ?_
      · go_wp2
        exact ⟨trivial, rfl⟩
      refine pl_take (i := 2) 16 rfl rfl rfl (by kernel_rfl) (by kernel_rfl) (by kernel_rfl) (by simp [Act.put]) trivial ?_
      apply Exists.intro
      refine And.intro (fun w' hS' => ?_) ?_
      · refine wpList_slice rfl 22 (.tmp 14) _ _ _ rfl (.slice a0 p c0) (run_slice_to Try.underlying22 infoHash a0 N c0 p (by omega)) ?_
        go_wp2
        exact ⟨trivial, rfl⟩
      refine pl_take (i := 4) 18 rfl rfl rfl (by kernel_rfl) (by kernel_rfl) (by kernel_rfl) (by simp [Act.put]) trivial ?_
      apply Exists.intro
      refine And.intro (fun w' hS' => ?_) ?_
      · go_wp2
        exact ⟨trivial, rfl⟩
      refine pl_take (i := 5) 19 rfl rfl rfl (by kernel_rfl) (by kernel_rfl) (by kernel_rfl) (by simp [Act.put]) trivial ?_
      apply Exists.intro
      refine And.intro (fun w' hS' => ?_) ?_
      · go_wp2
        exact ⟨trivial, rfl⟩
      refine pl_take (i := 6) 20 rfl rfl rfl (by kernel_rfl) (by kernel_rfl) (by kernel_rfl) (by simp [Act.put]) trivial ?_
      apply Exists.intro
      refine And.intro (fun w' hS' => ?_) ?_
      · refine wpList_slice rfl 22 (.tmp 18) _ _ _ rfl (.slice A _ _) (by rw [hA'.out]; exact run_slice_from Try.underlying22 infoHash a0 N c0 p (by omega)) ?_
        go_wp2
        exact ⟨trivial, rfl⟩
      refine pl_heavy (i := 3) rfl (by kernel_rfl) ?_
      go_wp2_with fail
      refine (C1.out w3 _ (H1.out.take HL.out.2.2.2 p HL.out.2.2.1)).mono ?_
      rintro e w4 ⟨rfl, b4⟩
      have K4 := Lib.hid (K1.out.fresh b4)
      have B4 := Lib.hid (B1.out.tr b4)
      have H4 := Lib.hid (H1.out.fresh b4)
      clear b4 K1 B1 H1
      go_wp2
      first
        | refine And.intro trivial ?_
        | skip
      refine pl_heavy (i := 7) rfl (by kernel_rfl) ?_
      go_wp2_with fail
      refine (C2.out w4 _ (by have := H4.out.drop HL.out.2.2.2 p HL.out.2.2.1; rw [← hA'.out] at this; exact this)).mono ?_
      rintro e w5 ⟨rfl, b5⟩
      have K5 := Lib.hid (K4.out.fresh b5)
      have B5 := Lib.hid (B4.out.tr b5)
      clear b5 K4 B4 H4
      go_wp2
      first
        | refine And.intro trivial ?_
        | skip
      refine pl_heavy (i := 8) rfl (by kernel_rfl) ?_
      go_wp2_with fail
      refine (rknot_any w5 X Y HL.out.1 HL.out.2.1).mono ?_
      rintro e w6 ⟨rfl, b6⟩
      have K6 := Lib.hid (K5.out.fresh b6)
      have B6 := Lib.hid (B5.out.tr b6)
      clear b6 K5 B5
      go_wp2
      first
        | refine And.intro trivial ?_
        | skip
      refine pl_heavy (i := 9) rfl (by kernel_rfl) ?_
      refine wpList_store_var rfl 24 (.tmp 2) (.tmp 22) rfl (w.heap.size) _ rfl _ (bvs (knotB X Y)) rfl K6.out (by simp [hZl.out]) (bvs_one _) (by rw [bvs_length, hZl.out]; exact infoHash) ?_
      intro wf kf of
      have BF : Hid (Below w.heap.size w wf) := Below.only B6.out of (by omega)
      have KF := Lib.hid kf
      clear kf
      go_wp2
      first
        | refine And.intro trivial ?_
        | skip
      refine pl_done (by kernel_rfl) ?_
      go_wp2
      exact bodyPost_ret (results_cell1 rfl _ _ (w.heap.size) _ _ _ _ rfl KF.out Try.underlying24 rfl (by simp [hZl.out, infoHash])) rfl ⟨rfl, BF.out⟩

end Go.Proofs.Ytbabjepblakboaa
