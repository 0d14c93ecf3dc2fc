/- MerkleLists: the law's walk, where nothing is to be told. -/
import Derived.Test.YtbabjepblakboaaZi
import Derived.Test.YtbabjepblakboaaZc
namespace Go.Proofs.Ytbabjepblakboaa
set_option linter.unusedVariables false
set_option linter.unusedSimpArgs false
open Go.RowKit Go.Lib

theorem hash_ne_same (w : World) (xs : List UInt8) (hx : xs.length = 32) :
    (binOp .neq 24 (.agg (bvs xs).toArray) (.agg (bvs xs).toArray)).run Try.prog w = .ok (.bool false) w := by
  rw [hash_ne w xs xs hx hx]
  simp

set_option maxRecDepth 100000 in
set_option maxHeartbeats 4000000 in
theorem yl_great (w : World) (v u : Value) (l m : List Bs) (h : Hs w v l) (hi : Hs w u m) (h7 : 70 < l.length ∨ 70 < m.length) :
    Calls Try.prog 12 #[v, u] w fun e w' => e = .returned (.bool true) ∧ Below w.heap.size w w' := by
  obtain ⟨a0, c0, rfl⟩ := h.slice
  obtain ⟨a1, c1, rfl⟩ := hi.slice
  obtain ⟨N, hN⟩ : ∃ N, N = l.length := ⟨_, rfl⟩
  obtain ⟨M, hM⟩ : ∃ M, M = m.length := ⟨_, rfl⟩
  rw [← hN, ← hM] at h7
  rw [← hN, ← hM]
  clear h hi hN hM
  have BB := Lib.hid (Below.refl w.heap.size w)
  by_cases h70 : 70 < N
  · have i70 : (70 : Int) < (N : Int) := by omega
    clear h7 h70
    go_enter Try.func12, Try.ntmps12
    go_wp2_with fail
    refine (yknown_any _).mono ?_
    rintro e wk ⟨rfl, bk⟩
    replace BB := Lib.hid (BB.out.tr bk)
    clear bk
    go_wp2
    go_ret
    exact ⟨rfl, BB.out⟩
  · have i70 : ¬ ((70 : Int) < (N : Int)) := by omega
    have i71 : (70 : Int) < (M : Int) := by omega
    clear h7 h70
    go_enter Try.func12, Try.ntmps12
    go_wp2_with fail
    refine (yknown_any _).mono ?_
    rintro e wk ⟨rfl, bk⟩
    replace BB := Lib.hid (BB.out.tr bk)
    clear bk
    go_wp2
    go_ret
    exact ⟨rfl, BB.out⟩

set_option maxRecDepth 100000 in
set_option maxHeartbeats 4000000 in
theorem yl_roots (w : World) (v u : Value) (l m : List Bs) (h : Hs w v l) (hi : Hs w u m) (h70 : ¬ 70 < l.length) (h71 : ¬ 70 < m.length) (hr : rootB l ≠ rootB m) :
    Calls Try.prog 12 #[v, u] w fun e w' => e = .returned (.bool true) ∧ Below w.heap.size w w' := by
  obtain ⟨a0, c0, rfl⟩ := h.slice
  obtain ⟨a1, c1, rfl⟩ := hi.slice
  obtain ⟨N, hN⟩ : ∃ N, N = l.length := ⟨_, rfl⟩
  obtain ⟨M, hM⟩ : ∃ M, M = m.length := ⟨_, rfl⟩
  obtain ⟨X, hX⟩ : ∃ X, X = rootB l := ⟨_, rfl⟩
  obtain ⟨Y, hY⟩ : ∃ Y, Y = rootB m := ⟨_, rfl⟩
  have hXl : X.length = 32 := by rw [hX]; exact topB_length _ _
  have hYl : Y.length = 32 := by rw [hY]; exact topB_length _ _
  have CA := Lib.hid (fun w0 (h0 : Hs w0 (.slice a0 l.length c0) l) => mroot_any w0 (.slice a0 l.length c0) l h0 (by omega))
  have CB' := Lib.hid (fun w0 (h0 : Hs w0 (.slice a1 m.length c1) m) => mroot_any w0 (.slice a1 m.length c1) m h0 (by omega))
  have CS := Lib.hid (fun w0 (h0 : Hs w0 (.slice a0 l.length c0) l) (h1 : Hs w0 (.slice a1 m.length c1) m) => ysame_any w0 (.slice a0 l.length c0) (.slice a1 m.length c1) l m h0 h1)
  rw [← hX, ← hN] at CA
  rw [← hY, ← hM] at CB'
  rw [← hN, ← hM] at CS
  rw [← hN] at h h70 ⊢
  rw [← hM] at hi h71 ⊢
  have i70 : ¬ ((70 : Int) < (N : Int)) := by omega
  have i71 : ¬ ((70 : Int) < (M : Int)) := by omega
  have HA := Lib.hid h
  have HB := Lib.hid hi
  have HL := Lib.hid (And.intro hXl hYl)
  rw [← hX, ← hY] at hr
  have QR : Hid ((X != Y) = true) := Lib.hid (by simpa using hr)
  clear h hi h70 h71 hN hM hX hY hXl hYl hr
  go_enter Try.func12, Try.ntmps12
  go_wp2_with fail
  refine (CA.out w HA.out).mono ?_
  rintro e w1 ⟨rfl, b1⟩
  have BB := Lib.hid b1
  clear b1
  go_wp2_with fail
  refine (CB'.out w1 (HB.out.fresh BB.out)).mono ?_
  rintro e w2 ⟨rfl, b2⟩
  replace BB := Lib.hid (BB.out.tr b2)
  clear b2
  go_wp2_with (with_reducible refine stopAt 21 ?_)
  refine Stop.go ?_
  refine wpList_unguard' rfl ?_
  refine wpList_bin rfl .neq 24 24 (.tmp 18) (.tmp 20) rfl (.bool true) (eqGuard_agg _ _ _ _ _ _ _ (by kernel_rfl)) ((hash_ne w2 X Y HL.out.1 HL.out.2).trans (by rw [QR.out])) ?_
  go_wp2_with fail
  refine (yknown_any _).mono ?_
  rintro e wk ⟨rfl, bk⟩
  replace BB := Lib.hid (BB.out.tr bk)
  clear bk
  go_wp2
  go_ret
  exact ⟨rfl, BB.out⟩

set_option maxRecDepth 100000 in
set_option maxHeartbeats 4000000 in
theorem yl_same (w : World) (v u : Value) (l m : List Bs) (h : Hs w v l) (hi : Hs w u m) (h70 : ¬ 70 < l.length) (h71 : ¬ 70 < m.length) (hr : rootB l = rootB m) (hlm : l = m) :
    Calls Try.prog 12 #[v, u] w fun e w' => e = .returned (.bool true) ∧ Below w.heap.size w w' := by
  obtain ⟨a0, c0, rfl⟩ := h.slice
  obtain ⟨a1, c1, rfl⟩ := hi.slice
  obtain ⟨N, hN⟩ : ∃ N, N = l.length := ⟨_, rfl⟩
  obtain ⟨M, hM⟩ : ∃ M, M = m.length := ⟨_, rfl⟩
  obtain ⟨X, hX⟩ : ∃ X, X = rootB l := ⟨_, rfl⟩
  obtain ⟨Y, hY⟩ : ∃ Y, Y = rootB m := ⟨_, rfl⟩
  have hXl : X.length = 32 := by rw [hX]; exact topB_length _ _
  have hYl : Y.length = 32 := by rw [hY]; exact topB_length _ _
  have CA := Lib.hid (fun w0 (h0 : Hs w0 (.slice a0 l.length c0) l) => mroot_any w0 (.slice a0 l.length c0) l h0 (by omega))
  have CB' := Lib.hid (fun w0 (h0 : Hs w0 (.slice a1 m.length c1) m) => mroot_any w0 (.slice a1 m.length c1) m h0 (by omega))
  have CS := Lib.hid (fun w0 (h0 : Hs w0 (.slice a0 l.length c0) l) (h1 : Hs w0 (.slice a1 m.length c1) m) => ysame_any w0 (.slice a0 l.length c0) (.slice a1 m.length c1) l m h0 h1)
  rw [← hX, ← hN] at CA
  rw [← hY, ← hM] at CB'
  rw [← hN, ← hM] at CS
  rw [← hN] at h h70 ⊢
  rw [← hM] at hi h71 ⊢
  have i70 : ¬ ((70 : Int) < (N : Int)) := by omega
  have i71 : ¬ ((70 : Int) < (M : Int)) := by omega
  have HA := Lib.hid h
  have HB := Lib.hid hi
  have HL := Lib.hid (And.intro hXl hYl)
  rw [← hX, ← hY] at hr
  subst hr
  rw [decide_eq_true hlm] at CS
  clear h hi h70 h71 hN hM hX hY hXl hYl hlm
  go_enter Try.func12, Try.ntmps12
  go_wp2_with fail
  refine (CA.out w HA.out).mono ?_
  rintro e w1 ⟨rfl, b1⟩
  have BB := Lib.hid b1
  clear b1
  go_wp2_with fail
  refine (CB'.out w1 (HB.out.fresh BB.out)).mono ?_
  rintro e w2 ⟨rfl, b2⟩
  replace BB := Lib.hid (BB.out.tr b2)
  clear b2
  go_wp2_with (with_reducible refine stopAt 21 ?_)
  refine Stop.go ?_
  refine wpList_unguard' rfl ?_
  refine wpList_bin rfl .neq 24 24 (.tmp 18) (.tmp 20) rfl (.bool false) (eqGuard_agg _ _ _ _ _ _ _ (by kernel_rfl)) (hash_ne_same w2 X HL.out.1) ?_
  go_wp2_with fail
  refine (CS.out w2 (HA.out.fresh BB.out) (HB.out.fresh BB.out)).mono ?_
  rintro e w3 ⟨rfl, b3⟩
  replace BB := Lib.hid (BB.out.tr b3)
  clear b3
  go_wp2_with fail
  refine (yknown_any _).mono ?_
  rintro e wk ⟨rfl, bk⟩
  replace BB := Lib.hid (BB.out.tr bk)
  clear bk
  go_wp2
  go_ret
  exact ⟨rfl, BB.out⟩

set_option maxRecDepth 100000 in
set_option maxHeartbeats 4000000 in
theorem yl_nil (w : World) (v u : Value) (l m : List Bs) (h : Hs w v l) (hi : Hs w u m) (h70 : ¬ 70 < l.length) (h71 : ¬ 70 < m.length) (hr : rootB l = rootB m) (hlm : l ≠ m) (h0 : l.length = 0 ∨ m.length = 0) :
    Calls Try.prog 12 #[v, u] w fun e w' => e = .returned (.bool true) ∧ Below w.heap.size w w' := by
  obtain ⟨a0, c0, rfl⟩ := h.slice
  obtain ⟨a1, c1, rfl⟩ := hi.slice
  obtain ⟨N, hN⟩ : ∃ N, N = l.length := ⟨_, rfl⟩
  obtain ⟨M, hM⟩ : ∃ M, M = m.length := ⟨_, rfl⟩
  obtain ⟨X, hX⟩ : ∃ X, X = rootB l := ⟨_, rfl⟩
  obtain ⟨Y, hY⟩ : ∃ Y, Y = rootB m := ⟨_, rfl⟩
  have hXl : X.length = 32 := by rw [hX]; exact topB_length _ _
  have hYl : Y.length = 32 := by rw [hY]; exact topB_length _ _
  have CA := Lib.hid (fun w0 (h0 : Hs w0 (.slice a0 l.length c0) l) => mroot_any w0 (.slice a0 l.length c0) l h0 (by omega))
  have CB' := Lib.hid (fun w0 (h0 : Hs w0 (.slice a1 m.length c1) m) => mroot_any w0 (.slice a1 m.length c1) m h0 (by omega))
  have CS := Lib.hid (fun w0 (h0 : Hs w0 (.slice a0 l.length c0) l) (h1 : Hs w0 (.slice a1 m.length c1) m) => ysame_any w0 (.slice a0 l.length c0) (.slice a1 m.length c1) l m h0 h1)
  rw [← hX, ← hN] at CA
  rw [← hY, ← hM] at CB'
  rw [← hN, ← hM] at CS
  rw [← hN] at h h70 ⊢
  rw [← hM] at hi h71 ⊢
  have i70 : ¬ ((70 : Int) < (N : Int)) := by omega
  have i71 : ¬ ((70 : Int) < (M : Int)) := by omega
  have HA := Lib.hid h
  have HB := Lib.hid hi
  have HL := Lib.hid (And.intro hXl hYl)
  rw [← hX, ← hY] at hr
  subst hr
  rw [decide_eq_false hlm] at CS
  rw [← hN, ← hM] at h0
  by_cases hN0 : N = 0
  · have e1 : ((N : Int) == 0) = true := by rw [beq_iff_eq]; omega
    clear h hi h70 h71 hN hM hX hY hXl hYl hlm h0 hN0
    go_enter Try.func12, Try.ntmps12
    go_wp2_with fail
    refine (CA.out w HA.out).mono ?_
    rintro e w1 ⟨rfl, b1⟩
    have BB := Lib.hid b1
    clear b1
    go_wp2_with fail
    refine (CB'.out w1 (HB.out.fresh BB.out)).mono ?_
    rintro e w2 ⟨rfl, b2⟩
    replace BB := Lib.hid (BB.out.tr b2)
    clear b2
    go_wp2_with (with_reducible refine stopAt 21 ?_)
    refine Stop.go ?_
    refine wpList_unguard' rfl ?_
    refine wpList_bin rfl .neq 24 24 (.tmp 18) (.tmp 20) rfl (.bool false) (eqGuard_agg _ _ _ _ _ _ _ (by kernel_rfl)) (hash_ne_same w2 X HL.out.1) ?_
    go_wp2_with fail
    refine (CS.out w2 (HA.out.fresh BB.out) (HB.out.fresh BB.out)).mono ?_
    rintro e w3 ⟨rfl, b3⟩
    replace BB := Lib.hid (BB.out.tr b3)
    clear b3
    go_wp2_with fail
    refine (yknown_any _).mono ?_
    rintro e wk ⟨rfl, bk⟩
    replace BB := Lib.hid (BB.out.tr bk)
    clear bk
    go_wp2
    go_ret
    exact ⟨rfl, BB.out⟩
  · have e1 : ((N : Int) == 0) = false := by rw [beq_eq_false_iff_ne]; omega
    have e2 : ((M : Int) == 0) = true := by rw [beq_iff_eq]; omega
    clear h hi h70 h71 hN hM hX hY hXl hYl hlm h0 hN0
    go_enter Try.func12, Try.ntmps12
    go_wp2_with fail
    refine (CA.out w HA.out).mono ?_
    rintro e w1 ⟨rfl, b1⟩
    have BB := Lib.hid b1
    clear b1
    go_wp2_with fail
    refine (CB'.out w1 (HB.out.fresh BB.out)).mono ?_
    rintro e w2 ⟨rfl, b2⟩
    replace BB := Lib.hid (BB.out.tr b2)
    clear b2
    go_wp2_with (with_reducible refine stopAt 21 ?_)
    refine Stop.go ?_
    refine wpList_unguard' rfl ?_
    refine wpList_bin rfl .neq 24 24 (.tmp 18) (.tmp 20) rfl (.bool false) (eqGuard_agg _ _ _ _ _ _ _ (by kernel_rfl)) (hash_ne_same w2 X HL.out.1) ?_
    go_wp2_with fail
    refine (CS.out w2 (HA.out.fresh BB.out) (HB.out.fresh BB.out)).mono ?_
    rintro e w3 ⟨rfl, b3⟩
    replace BB := Lib.hid (BB.out.tr b3)
    clear b3
    go_wp2_with fail
    refine (yknown_any _).mono ?_
    rintro e wk ⟨rfl, bk⟩
    replace BB := Lib.hid (BB.out.tr bk)
    clear bk
    go_wp2
    go_ret
    exact ⟨rfl, BB.out⟩

end Go.Proofs.Ytbabjepblakboaa
