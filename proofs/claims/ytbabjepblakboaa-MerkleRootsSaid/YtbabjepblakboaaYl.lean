/- Merkle: whether a path may be, what it comes to, whether it checks, by the reference: the walks. -/
import Derived.Test.YtbabjepblakboaaYk
namespace Go.Proofs.Ytbabjepblakboaa
set_option linter.unusedVariables false
set_option linter.unusedSimpArgs false
open Go.RowKit Go.Lib

set_option maxRecDepth 100000 in
set_option maxHeartbeats 2000000 in
theorem rmay_a (w : World) (n c : Int) (a0 : Option Addr) (N c0 : Nat) (h1 : n < 0) :
    Calls Try.prog 58 #[.agg #[.int .i64 n, .int .i64 c, .slice a0 N c0]] w fun e w' => e = .returned (.bool false) ∧ Below w.heap.size w w' := by
  have HR : Hid (false = false) := Lib.hid rfl
  have hd2 : decide (0 ≤ n) = false := by simp; omega
  go_enter Try.func58, Try.ntmps58
  go_wp2_with fail
  obtain ⟨w1, h1, k1, b1, s1⟩ := alloc_cb w 92 [.int .i64 n, .int .i64 c, .slice a0 N c0]
  change Code.wp _ _ _ _ (w.alloc (.cells [.int .i64 n, .int .i64 c, .slice a0 N c0].toArray 92))
  rw [← h1]
  have hS : Hid (CB w1.drew 92 w.heap.size [.int .i64 n, .int .i64 c, .slice a0 N c0]) := Lib.hid k1
  have B1 : Hid (Below w.heap.size w w1.drew) := Lib.hid b1.drew
  clear h1 k1 b1 s1
  refine pl_start 27 rfl (fun w' => CB w' 92 w.heap.size [.int .i64 n, .int .i64 c, .slice a0 N c0]) (by kernel_rfl) ?_
  obtain ⟨w2, hw2⟩ : ∃ w2, w2 = w1.drew := ⟨_, rfl⟩
  rw [← hw2] at hS B1 ⊢
  clear hw2
  refine pl_take (i := 0) 3 rfl rfl rfl (by kernel_rfl) (by kernel_rfl) (by kernel_rfl) (by simp [Act.put]) hS.out ?_
  apply Exists.intro
  refine And.intro (fun w' hS' => ?_) ?_
  · have hc0 := hS'.cell 0 _ rfl
    have hc1 := hS'.cell 1 _ rfl
    have hc2 := hS'.cell 2 _ rfl
    clear hS'
    go_wp2
    first
      | exact ⟨trivial, rfl⟩
      | rfl
  refine pl_take (i := 1) 4 rfl rfl rfl (by kernel_rfl) (by kernel_rfl) (by kernel_rfl) (by simp [Act.put]) hS.out ?_
  apply Exists.intro
  refine And.intro (fun w' hS' => ?_) ?_
  · have hc0 := hS'.cell 0 _ rfl
    have hc1 := hS'.cell 1 _ rfl
    have hc2 := hS'.cell 2 _ rfl
    clear hS'
    go_wp2
    first
      | exact ⟨trivial, rfl⟩
      | rfl
  refine pl_take (i := 2) 5 rfl rfl rfl (by kernel_rfl) (by kernel_rfl) (by kernel_rfl) (by simp [Act.put]) hS.out ?_
  apply Exists.intro
  refine And.intro (fun w' hS' => ?_) ?_
  · have hc0 := hS'.cell 0 _ rfl
    have hc1 := hS'.cell 1 _ rfl
    have hc2 := hS'.cell 2 _ rfl
    clear hS'
    go_wp2
    first
      | exact ⟨trivial, rfl⟩
      | rfl
  try rw [hd2]
  refine pl_take (i := 3) 6 rfl rfl rfl (by kernel_rfl) (by kernel_rfl) (by kernel_rfl) (by simp [Act.put]) hS.out ?_
  apply Exists.intro
  refine And.intro (fun w' hS' => ?_) ?_
  · have hc0 := hS'.cell 0 _ rfl
    have hc1 := hS'.cell 1 _ rfl
    have hc2 := hS'.cell 2 _ rfl
    clear hS'
    go_wp2
    first
      | exact ⟨trivial, rfl⟩
      | rfl
  refine pl_skip (i := 4) rfl (by kernel_rfl) (by kernel_rfl) (by kernel_rfl) (by kernel_rfl) hS.out ?_
  apply Exists.intro
  refine And.intro (by simp [Act.put, go_sem]; rfl) ?_
  refine pl_skip (i := 5) rfl (by kernel_rfl) (by kernel_rfl) (by kernel_rfl) (by kernel_rfl) hS.out ?_
  apply Exists.intro
  refine And.intro (by simp [Act.put, go_sem]; rfl) ?_
  refine pl_skip (i := 6) rfl (by kernel_rfl) (by kernel_rfl) (by kernel_rfl) (by kernel_rfl) hS.out ?_
  apply Exists.intro
  refine And.intro (by simp [Act.put, go_sem]; rfl) ?_
  refine pl_skip (i := 7) rfl (by kernel_rfl) (by kernel_rfl) (by kernel_rfl) (by kernel_rfl) hS.out ?_
  apply Exists.intro
  refine And.intro (by simp [Act.put, go_sem]; rfl) ?_
  refine pl_skip (i := 8) rfl (by kernel_rfl) (by kernel_rfl) (by kernel_rfl) (by kernel_rfl) hS.out ?_
  apply Exists.intro
  refine And.intro (by simp [Act.put, go_sem]; rfl) ?_
  try rw [hd8]
  refine pl_take (i := 9) 12 rfl rfl rfl (by kernel_rfl) (by kernel_rfl) (by kernel_rfl) (by simp [Act.put]) hS.out ?_
  apply Exists.intro
  refine And.intro (fun w' hS' => ?_) ?_
  · have hc0 := hS'.cell 0 _ rfl
    have hc1 := hS'.cell 1 _ rfl
    have hc2 := hS'.cell 2 _ rfl
    clear hS'
    go_wp2
    first
      | exact ⟨trivial, rfl⟩
      | rfl
  refine pl_take (i := 10) 13 rfl rfl rfl (by kernel_rfl) (by kernel_rfl) (by kernel_rfl) (by simp [Act.put]) hS.out ?_
  apply Exists.intro
  refine And.intro (fun w' hS' => ?_) ?_
  · have hc0 := hS'.cell 0 _ rfl
    have hc1 := hS'.cell 1 _ rfl
    have hc2 := hS'.cell 2 _ rfl
    clear hS'
    go_wp2
    first
      | exact ⟨trivial, rfl⟩
      | rfl
  refine pl_skip (i := 11) rfl (by kernel_rfl) (by kernel_rfl) (by kernel_rfl) (by kernel_rfl) hS.out ?_
  apply Exists.intro
  refine And.intro (by simp [Act.put, go_sem]; rfl) ?_
  refine pl_skip (i := 12) rfl (by kernel_rfl) (by kernel_rfl) (by kernel_rfl) (by kernel_rfl) hS.out ?_
  apply Exists.intro
  refine And.intro (by simp [Act.put, go_sem]; rfl) ?_
  refine pl_skip (i := 13) rfl (by kernel_rfl) (by kernel_rfl) (by kernel_rfl) (by kernel_rfl) hS.out ?_
  apply Exists.intro
  refine And.intro (by simp [Act.put, go_sem]; rfl) ?_
  try rw [hd13]
  refine pl_take (i := 14) 17 rfl rfl rfl (by kernel_rfl) (by kernel_rfl) (by kernel_rfl) (by simp [Act.put]) hS.out ?_
  apply Exists.intro
  refine And.intro (fun w' hS' => ?_) ?_
  · have hc0 := hS'.cell 0 _ rfl
    have hc1 := hS'.cell 1 _ rfl
    have hc2 := hS'.cell 2 _ rfl
    clear hS'
    go_wp2
    first
      | exact ⟨trivial, rfl⟩
      | rfl
  refine pl_take (i := 15) 18 rfl rfl rfl (by kernel_rfl) (by kernel_rfl) (by kernel_rfl) (by simp [Act.put]) hS.out ?_
  apply Exists.intro
  refine And.intro (fun w' hS' => ?_) ?_
  · have hc0 := hS'.cell 0 _ rfl
    have hc1 := hS'.cell 1 _ rfl
    have hc2 := hS'.cell 2 _ rfl
    clear hS'
    go_wp2
    first
      | exact ⟨trivial, rfl⟩
      | rfl
  refine pl_skip (i := 16) rfl (by kernel_rfl) (by kernel_rfl) (by kernel_rfl) (by kernel_rfl) hS.out ?_
  apply Exists.intro
  refine And.intro (by simp [Act.put, go_sem]; rfl) ?_
  refine pl_skip (i := 17) rfl (by kernel_rfl) (by kernel_rfl) (by kernel_rfl) (by kernel_rfl) hS.out ?_
  apply Exists.intro
  refine And.intro (by simp [Act.put, go_sem]; rfl) ?_
  refine pl_skip (i := 18) rfl (by kernel_rfl) (by kernel_rfl) (by kernel_rfl) (by kernel_rfl) hS.out ?_
  apply Exists.intro
  refine And.intro (by simp [Act.put, go_sem]; rfl) ?_
  refine pl_skip (i := 19) rfl (by kernel_rfl) (by kernel_rfl) (by kernel_rfl) (by kernel_rfl) hS.out ?_
  apply Exists.intro
  refine And.intro (by simp [Act.put, go_sem]; rfl) ?_
  refine pl_skip (i := 20) rfl (by kernel_rfl) (by kernel_rfl) (by kernel_rfl) (by kernel_rfl) hS.out ?_
  apply Exists.intro
  refine And.intro (by simp [Act.put, go_sem]; rfl) ?_
  refine pl_skip (i := 21) rfl (by kernel_rfl) (by kernel_rfl) (by kernel_rfl) (by kernel_rfl) hS.out ?_
  apply Exists.intro
  refine And.intro (by simp [Act.put, go_sem]; rfl) ?_
  refine pl_skip (i := 22) rfl (by kernel_rfl) (by kernel_rfl) (by kernel_rfl) (by kernel_rfl) hS.out ?_
  apply Exists.intro
  refine And.intro (by simp [Act.put, go_sem]; rfl) ?_
  refine pl_skip (i := 23) rfl (by kernel_rfl) (by kernel_rfl) (by kernel_rfl) (by kernel_rfl) hS.out ?_
  apply Exists.intro
  refine And.intro (by simp [Act.put, go_sem]; rfl) ?_
  refine pl_skip (i := 24) rfl (by kernel_rfl) (by kernel_rfl) (by kernel_rfl) (by kernel_rfl) hS.out ?_
  apply Exists.intro
  refine And.intro (by simp [Act.put, go_sem]; rfl) ?_
  refine pl_take (i := 25) 28 rfl rfl rfl (by kernel_rfl) (by kernel_rfl) (by kernel_rfl) (by simp [Act.put]) hS.out ?_
  apply Exists.intro
  refine And.intro (fun w' hS' => ?_) ?_
  · have hc0 := hS'.cell 0 _ rfl
    have hc1 := hS'.cell 1 _ rfl
    have hc2 := hS'.cell 2 _ rfl
    clear hS'
    go_wp2
    first
      | exact ⟨trivial, rfl⟩
      | rfl
  refine pl_take (i := 26) 2 rfl rfl rfl (by kernel_rfl) (by kernel_rfl) (by kernel_rfl) (by simp [Act.put]) hS.out ?_
  apply Exists.intro
  refine And.intro (fun w' hS' => ?_) ?_
  · have hc0 := hS'.cell 0 _ rfl
    have hc1 := hS'.cell 1 _ rfl
    have hc2 := hS'.cell 2 _ rfl
    clear hS'
    go_wp2
    first
      | exact ⟨trivial, rfl⟩
      | rfl
  refine pl_done (by kernel_rfl) ?_
  go_wp2
  go_ret
  exact ⟨rfl, B1.out⟩

set_option maxRecDepth 100000 in
set_option maxHeartbeats 2000000 in
theorem rmay_b (w : World) (n c : Int) (a0 : Option Addr) (N c0 : Nat) (h1 : ¬ (n < 0)) (h2 : c ≤ n) :
    Calls Try.prog 58 #[.agg #[.int .i64 n, .int .i64 c, .slice a0 N c0]] w fun e w' => e = .returned (.bool false) ∧ Below w.heap.size w w' := by
  have HR : Hid (false = false) := Lib.hid rfl
  have hd8 : decide (n < c) = false := by simp; omega
  go_enter Try.func58, Try.ntmps58
  go_wp2_with fail
  obtain ⟨w1, h1, k1, b1, s1⟩ := alloc_cb w 92 [.int .i64 n, .int .i64 c, .slice a0 N c0]
  change Code.wp _ _ _ _ (w.alloc (.cells [.int .i64 n, .int .i64 c, .slice a0 N c0].toArray 92))
  rw [← h1]
  have hS : Hid (CB w1.drew 92 w.heap.size [.int .i64 n, .int .i64 c, .slice a0 N c0]) := Lib.hid k1
  have B1 : Hid (Below w.heap.size w w1.drew) := Lib.hid b1.drew
  clear h1 k1 b1 s1
  refine pl_start 27 rfl (fun w' => CB w' 92 w.heap.size [.int .i64 n, .int .i64 c, .slice a0 N c0]) (by kernel_rfl) ?_
  obtain ⟨w2, hw2⟩ : ∃ w2, w2 = w1.drew := ⟨_, rfl⟩
  rw [← hw2] at hS B1 ⊢
  clear hw2
  refine pl_take (i := 0) 3 rfl rfl rfl (by kernel_rfl) (by kernel_rfl) (by kernel_rfl) (by simp [Act.put]) hS.out ?_
  apply Exists.intro
  refine And.intro (fun w' hS' => ?_) ?_
  · have hc0 := hS'.cell 0 _ rfl
    have hc1 := hS'.cell 1 _ rfl
    have hc2 := hS'.cell 2 _ rfl
    clear hS'
    go_wp2
    first
      | exact ⟨trivial, rfl⟩
      | rfl
  refine pl_take (i := 1) 4 rfl rfl rfl (by kernel_rfl) (by kernel_rfl) (by kernel_rfl) (by simp [Act.put]) hS.out ?_
  apply Exists.intro
  refine And.intro (fun w' hS' => ?_) ?_
  · have hc0 := hS'.cell 0 _ rfl
    have hc1 := hS'.cell 1 _ rfl
    have hc2 := hS'.cell 2 _ rfl
    clear hS'
    go_wp2
    first
      | exact ⟨trivial, rfl⟩
      | rfl
  refine pl_take (i := 2) 5 rfl rfl rfl (by kernel_rfl) (by kernel_rfl) (by kernel_rfl) (by simp [Act.put]) hS.out ?_
  apply Exists.intro
  refine And.intro (fun w' hS' => ?_) ?_
  · have hc0 := hS'.cell 0 _ rfl
    have hc1 := hS'.cell 1 _ rfl
    have hc2 := hS'.cell 2 _ rfl
    clear hS'
    go_wp2
    first
      | exact ⟨trivial, rfl⟩
      | rfl
  try rw [hd2]
  refine pl_take (i := 3) 6 rfl rfl rfl (by kernel_rfl) (by kernel_rfl) (by kernel_rfl) (by simp [Act.put]) hS.out ?_
  apply Exists.intro
  refine And.intro (fun w' hS' => ?_) ?_
  · have hc0 := hS'.cell 0 _ rfl
    have hc1 := hS'.cell 1 _ rfl
    have hc2 := hS'.cell 2 _ rfl
    clear hS'
    go_wp2
    first
      | exact ⟨trivial, rfl⟩
      | rfl
  refine pl_take (i := 4) 7 rfl rfl rfl (by kernel_rfl) (by kernel_rfl) (by kernel_rfl) (by simp [Act.put]) hS.out ?_
  apply Exists.intro
  refine And.intro (fun w' hS' => ?_) ?_
  · have hc0 := hS'.cell 0 _ rfl
    have hc1 := hS'.cell 1 _ rfl
    have hc2 := hS'.cell 2 _ rfl
    clear hS'
    go_wp2
    first
      | exact ⟨trivial, rfl⟩
      | rfl
  refine pl_take (i := 5) 8 rfl rfl rfl (by kernel_rfl) (by kernel_rfl) (by kernel_rfl) (by simp [Act.put]) hS.out ?_
  apply Exists.intro
  refine And.intro (fun w' hS' => ?_) ?_
  · have hc0 := hS'.cell 0 _ rfl
    have hc1 := hS'.cell 1 _ rfl
    have hc2 := hS'.cell 2 _ rfl
    clear hS'
    go_wp2
    first
      | exact ⟨trivial, rfl⟩
      | rfl
  refine pl_take (i := 6) 9 rfl rfl rfl (by kernel_rfl) (by kernel_rfl) (by kernel_rfl) (by simp [Act.put]) hS.out ?_
  apply Exists.intro
  refine And.intro (fun w' hS' => ?_) ?_
  · have hc0 := hS'.cell 0 _ rfl
    have hc1 := hS'.cell 1 _ rfl
    have hc2 := hS'.cell 2 _ rfl
    clear hS'
    go_wp2
    first
      | exact ⟨trivial, rfl⟩
      | rfl
  refine pl_take (i := 7) 10 rfl rfl rfl (by kernel_rfl) (by kernel_rfl) (by kernel_rfl) (by simp [Act.put]) hS.out ?_
  apply Exists.intro
  refine And.intro (fun w' hS' => ?_) ?_
  · have hc0 := hS'.cell 0 _ rfl
    have hc1 := hS'.cell 1 _ rfl
    have hc2 := hS'.cell 2 _ rfl
    clear hS'
    go_wp2
    first
      | exact ⟨trivial, rfl⟩
      | rfl
  refine pl_take (i := 8) 11 rfl rfl rfl (by kernel_rfl) (by kernel_rfl) (by kernel_rfl) (by simp [Act.put]) hS.out ?_
  apply Exists.intro
  refine And.intro (fun w' hS' => ?_) ?_
  · have hc0 := hS'.cell 0 _ rfl
    have hc1 := hS'.cell 1 _ rfl
    have hc2 := hS'.cell 2 _ rfl
    clear hS'
    go_wp2
    first
      | exact ⟨trivial, rfl⟩
      | rfl
  try rw [hd8]
  refine pl_take (i := 9) 12 rfl rfl rfl (by kernel_rfl) (by kernel_rfl) (by kernel_rfl) (by simp [Act.put]) hS.out ?_
  apply Exists.intro
  refine And.intro (fun w' hS' => ?_) ?_
  · have hc0 := hS'.cell 0 _ rfl
    have hc1 := hS'.cell 1 _ rfl
    have hc2 := hS'.cell 2 _ rfl
    clear hS'
    go_wp2
    first
      | exact ⟨trivial, rfl⟩
      | rfl
  refine pl_take (i := 10) 13 rfl rfl rfl (by kernel_rfl) (by kernel_rfl) (by kernel_rfl) (by simp [Act.put]) hS.out ?_
  apply Exists.intro
  refine And.intro (fun w' hS' => ?_) ?_
  · have hc0 := hS'.cell 0 _ rfl
    have hc1 := hS'.cell 1 _ rfl
    have hc2 := hS'.cell 2 _ rfl
    clear hS'
    go_wp2
    first
      | exact ⟨trivial, rfl⟩
      | rfl
  refine pl_skip (i := 11) rfl (by kernel_rfl) (by kernel_rfl) (by kernel_rfl) (by kernel_rfl) hS.out ?_
  apply Exists.intro
  refine And.intro (by simp [Act.put, go_sem]; rfl) ?_
  refine pl_skip (i := 12) rfl (by kernel_rfl) (by kernel_rfl) (by kernel_rfl) (by kernel_rfl) hS.out ?_
  apply Exists.intro
  refine And.intro (by simp [Act.put, go_sem]; rfl) ?_
  refine pl_skip (i := 13) rfl (by kernel_rfl) (by kernel_rfl) (by kernel_rfl) (by kernel_rfl) hS.out ?_
  apply Exists.intro
  refine And.intro (by simp [Act.put, go_sem]; rfl) ?_
  try rw [hd13]
  refine pl_take (i := 14) 17 rfl rfl rfl (by kernel_rfl) (by kernel_rfl) (by kernel_rfl) (by simp [Act.put]) hS.out ?_
  apply Exists.intro
  refine And.intro (fun w' hS' => ?_) ?_
  · have hc0 := hS'.cell 0 _ rfl
    have hc1 := hS'.cell 1 _ rfl
    have hc2 := hS'.cell 2 _ rfl
    clear hS'
    go_wp2
    first
      | exact ⟨trivial, rfl⟩
      | rfl
  refine pl_take (i := 15) 18 rfl rfl rfl (by kernel_rfl) (by kernel_rfl) (by kernel_rfl) (by simp [Act.put]) hS.out ?_
  apply Exists.intro
  refine And.intro (fun w' hS' => ?_) ?_
  · have hc0 := hS'.cell 0 _ rfl
    have hc1 := hS'.cell 1 _ rfl
    have hc2 := hS'.cell 2 _ rfl
    clear hS'
    go_wp2
    first
      | exact ⟨trivial, rfl⟩
      | rfl
  refine pl_skip (i := 16) rfl (by kernel_rfl) (by kernel_rfl) (by kernel_rfl) (by kernel_rfl) hS.out ?_
  apply Exists.intro
  refine And.intro (by simp [Act.put, go_sem]; rfl) ?_
  refine pl_skip (i := 17) rfl (by kernel_rfl) (by kernel_rfl) (by kernel_rfl) (by kernel_rfl) hS.out ?_
  apply Exists.intro
  refine And.intro (by simp [Act.put, go_sem]; rfl) ?_
  refine pl_skip (i := 18) rfl (by kernel_rfl) (by kernel_rfl) (by kernel_rfl) (by kernel_rfl) hS.out ?_
  apply Exists.intro
  refine And.intro (by simp [Act.put, go_sem]; rfl) ?_
  refine pl_skip (i := 19) rfl (by kernel_rfl) (by kernel_rfl) (by kernel_rfl) (by kernel_rfl) hS.out ?_
  apply Exists.intro
  refine And.intro (by simp [Act.put, go_sem]; rfl) ?_
  refine pl_skip (i := 20) rfl (by kernel_rfl) (by kernel_rfl) (by kernel_rfl) (by kernel_rfl) hS.out ?_
  apply Exists.intro
  refine And.intro (by simp [Act.put, go_sem]; rfl) ?_
  refine pl_skip (i := 21) rfl (by kernel_rfl) (by kernel_rfl) (by kernel_rfl) (by kernel_rfl) hS.out ?_
  apply Exists.intro
  refine And.intro (by simp [Act.put, go_sem]; rfl) ?_
  refine pl_skip (i := 22) rfl (by kernel_rfl) (by kernel_rfl) (by kernel_rfl) (by kernel_rfl) hS.out ?_
  apply Exists.intro
  refine And.intro (by simp [Act.put, go_sem]; rfl) ?_
  refine pl_skip (i := 23) rfl (by kernel_rfl) (by kernel_rfl) (by kernel_rfl) (by kernel_rfl) hS.out ?_
  apply Exists.intro
  refine And.intro (by simp [Act.put, go_sem]; rfl) ?_
  refine pl_skip (i := 24) rfl (by kernel_rfl) (by kernel_rfl) (by kernel_rfl) (by kernel_rfl) hS.out ?_
  apply Exists.intro
  refine And.intro (by simp [Act.put, go_sem]; rfl) ?_
  refine pl_take (i := 25) 28 rfl rfl rfl (by kernel_rfl) (by kernel_rfl) (by kernel_rfl) (by simp [Act.put]) hS.out ?_
  apply Exists.intro
  refine And.intro (fun w' hS' => ?_) ?_
  · have hc0 := hS'.cell 0 _ rfl
    have hc1 := hS'.cell 1 _ rfl
    have hc2 := hS'.cell 2 _ rfl
    clear hS'
    go_wp2
    first
      | exact ⟨trivial, rfl⟩
      | rfl
  refine pl_take (i := 26) 2 rfl rfl rfl (by kernel_rfl) (by kernel_rfl) (by kernel_rfl) (by simp [Act.put]) hS.out ?_
  apply Exists.intro
  refine And.intro (fun w' hS' => ?_) ?_
  · have hc0 := hS'.cell 0 _ rfl
    have hc1 := hS'.cell 1 _ rfl
    have hc2 := hS'.cell 2 _ rfl
    clear hS'
    go_wp2
    first
      | exact ⟨trivial, rfl⟩
      | rfl
  refine pl_done (by kernel_rfl) ?_
  go_wp2
  go_ret
  exact ⟨rfl, B1.out⟩

set_option maxRecDepth 100000 in
set_option maxHeartbeats 2000000 in
theorem rmay_c (w : World) (n c : Int) (a0 : Option Addr) (N c0 : Nat) (h1 : ¬ (n < 0)) (h2 : ¬ (c ≤ n)) (h3 : 1048576 < c) :
    Calls Try.prog 58 #[.agg #[.int .i64 n, .int .i64 c, .slice a0 N c0]] w fun e w' => e = .returned (.bool false) ∧ Below w.heap.size w w' := by
  have HR : Hid (false = false) := Lib.hid rfl
  have hd13 : decide (c ≤ 1048576) = false := by simp; omega
  go_enter Try.func58, Try.ntmps58
  go_wp2_with fail
  obtain ⟨w1, h1, k1, b1, s1⟩ := alloc_cb w 92 [.int .i64 n, .int .i64 c, .slice a0 N c0]
  change Code.wp _ _ _ _ (w.alloc (.cells [.int .i64 n, .int .i64 c, .slice a0 N c0].toArray 92))
  rw [← h1]
  have hS : Hid (CB w1.drew 92 w.heap.size [.int .i64 n, .int .i64 c, .slice a0 N c0]) := Lib.hid k1
  have B1 : Hid (Below w.heap.size w w1.drew) := Lib.hid b1.drew
  clear h1 k1 b1 s1
  refine pl_start 27 rfl (fun w' => CB w' 92 w.heap.size [.int .i64 n, .int .i64 c, .slice a0 N c0]) (by kernel_rfl) ?_
  obtain ⟨w2, hw2⟩ : ∃ w2, w2 = w1.drew := ⟨_, rfl⟩
  rw [← hw2] at hS B1 ⊢
  clear hw2
  refine pl_take (i := 0) 3 rfl rfl rfl (by kernel_rfl) (by kernel_rfl) (by kernel_rfl) (by simp [Act.put]) hS.out ?_
  apply Exists.intro
  refine And.intro (fun w' hS' => ?_) ?_
  · have hc0 := hS'.cell 0 _ rfl
    have hc1 := hS'.cell 1 _ rfl
    have hc2 := hS'.cell 2 _ rfl
    clear hS'
    go_wp2
    first
      | exact ⟨trivial, rfl⟩
      | rfl
  refine pl_take (i := 1) 4 rfl rfl rfl (by kernel_rfl) (by kernel_rfl) (by kernel_rfl) (by simp [Act.put]) hS.out ?_
  apply Exists.intro
  refine And.intro (fun w' hS' => ?_) ?_
  · have hc0 := hS'.cell 0 _ rfl
    have hc1 := hS'.cell 1 _ rfl
    have hc2 := hS'.cell 2 _ rfl
    clear hS'
    go_wp2
    first
      | exact ⟨trivial, rfl⟩
      | rfl
  refine pl_take (i := 2) 5 rfl rfl rfl (by kernel_rfl) (by kernel_rfl) (by kernel_rfl) (by simp [Act.put]) hS.out ?_
  apply Exists.intro
  refine And.intro (fun w' hS' => ?_) ?_
  · have hc0 := hS'.cell 0 _ rfl
    have hc1 := hS'.cell 1 _ rfl
    have hc2 := hS'.cell 2 _ rfl
    clear hS'
    go_wp2
    first
      | exact ⟨trivial, rfl⟩
      | rfl
  try rw [hd2]
  refine pl_take (i := 3) 6 rfl rfl rfl (by kernel_rfl) (by kernel_rfl) (by kernel_rfl) (by simp [Act.put]) hS.out ?_
  apply Exists.intro
  refine And.intro (fun w' hS' => ?_) ?_
  · have hc0 := hS'.cell 0 _ rfl
    have hc1 := hS'.cell 1 _ rfl
    have hc2 := hS'.cell 2 _ rfl
    clear hS'
    go_wp2
    first
      | exact ⟨trivial, rfl⟩
      | rfl
  refine pl_take (i := 4) 7 rfl rfl rfl (by kernel_rfl) (by kernel_rfl) (by kernel_rfl) (by simp [Act.put]) hS.out ?_
  apply Exists.intro
  refine And.intro (fun w' hS' => ?_) ?_
  · have hc0 := hS'.cell 0 _ rfl
    have hc1 := hS'.cell 1 _ rfl
    have hc2 := hS'.cell 2 _ rfl
    clear hS'
    go_wp2
    first
      | exact ⟨trivial, rfl⟩
      | rfl
  refine pl_take (i := 5) 8 rfl rfl rfl (by kernel_rfl) (by kernel_rfl) (by kernel_rfl) (by simp [Act.put]) hS.out ?_
  apply Exists.intro
  refine And.intro (fun w' hS' => ?_) ?_
  · have hc0 := hS'.cell 0 _ rfl
    have hc1 := hS'.cell 1 _ rfl
    have hc2 := hS'.cell 2 _ rfl
    clear hS'
    go_wp2
    first
      | exact ⟨trivial, rfl⟩
      | rfl
  refine pl_take (i := 6) 9 rfl rfl rfl (by kernel_rfl) (by kernel_rfl) (by kernel_rfl) (by simp [Act.put]) hS.out ?_
  apply Exists.intro
  refine And.intro (fun w' hS' => ?_) ?_
  · have hc0 := hS'.cell 0 _ rfl
    have hc1 := hS'.cell 1 _ rfl
    have hc2 := hS'.cell 2 _ rfl
    clear hS'
    go_wp2
    first
      | exact ⟨trivial, rfl⟩
      | rfl
  refine pl_take (i := 7) 10 rfl rfl rfl (by kernel_rfl) (by kernel_rfl) (by kernel_rfl) (by simp [Act.put]) hS.out ?_
  apply Exists.intro
  refine And.intro (fun w' hS' => ?_) ?_
  · have hc0 := hS'.cell 0 _ rfl
    have hc1 := hS'.cell 1 _ rfl
    have hc2 := hS'.cell 2 _ rfl
    clear hS'
    go_wp2
    first
      | exact ⟨trivial, rfl⟩
      | rfl
  refine pl_take (i := 8) 11 rfl rfl rfl (by kernel_rfl) (by kernel_rfl) (by kernel_rfl) (by simp [Act.put]) hS.out ?_
  apply Exists.intro
  refine And.intro (fun w' hS' => ?_) ?_
  · have hc0 := hS'.cell 0 _ rfl
    have hc1 := hS'.cell 1 _ rfl
    have hc2 := hS'.cell 2 _ rfl
    clear hS'
    go_wp2
    first
      | exact ⟨trivial, rfl⟩
      | rfl
  try rw [hd8]
  refine pl_take (i := 9) 12 rfl rfl rfl (by kernel_rfl) (by kernel_rfl) (by kernel_rfl) (by simp [Act.put]) hS.out ?_
  apply Exists.intro
  refine And.intro (fun w' hS' => ?_) ?_
  · have hc0 := hS'.cell 0 _ rfl
    have hc1 := hS'.cell 1 _ rfl
    have hc2 := hS'.cell 2 _ rfl
    clear hS'
    go_wp2
    first
      | exact ⟨trivial, rfl⟩
      | rfl
  refine pl_take (i := 10) 13 rfl rfl rfl (by kernel_rfl) (by kernel_rfl) (by kernel_rfl) (by simp [Act.put]) hS.out ?_
  apply Exists.intro
  refine And.intro (fun w' hS' => ?_) ?_
  · have hc0 := hS'.cell 0 _ rfl
    have hc1 := hS'.cell 1 _ rfl
    have hc2 := hS'.cell 2 _ rfl
    clear hS'
    go_wp2
    first
      | exact ⟨trivial, rfl⟩
      | rfl
  refine pl_take (i := 11) 14 rfl rfl rfl (by kernel_rfl) (by kernel_rfl) (by kernel_rfl) (by simp [Act.put]) hS.out ?_
  apply Exists.intro
  refine And.intro (fun w' hS' => ?_) ?_
  · have hc0 := hS'.cell 0 _ rfl
    have hc1 := hS'.cell 1 _ rfl
    have hc2 := hS'.cell 2 _ rfl
    clear hS'
    go_wp2
    first
      | exact ⟨trivial, rfl⟩
      | rfl
  refine pl_take (i := 12) 15 rfl rfl rfl (by kernel_rfl) (by kernel_rfl) (by kernel_rfl) (by simp [Act.put]) hS.out ?_
  apply Exists.intro
  refine And.intro (fun w' hS' => ?_) ?_
  · have hc0 := hS'.cell 0 _ rfl
    have hc1 := hS'.cell 1 _ rfl
    have hc2 := hS'.cell 2 _ rfl
    clear hS'
    go_wp2
    first
      | exact ⟨trivial, rfl⟩
      | rfl
  refine pl_take (i := 13) 16 rfl rfl rfl (by kernel_rfl) (by kernel_rfl) (by kernel_rfl) (by simp [Act.put]) hS.out ?_
  apply Exists.intro
  refine And.intro (fun w' hS' => ?_) ?_
  · have hc0 := hS'.cell 0 _ rfl
    have hc1 := hS'.cell 1 _ rfl
    have hc2 := hS'.cell 2 _ rfl
    clear hS'
    go_wp2
    first
      | exact ⟨trivial, rfl⟩
      | rfl
  try rw [hd13]
  refine pl_take (i := 14) 17 rfl rfl rfl (by kernel_rfl) (by kernel_rfl) (by kernel_rfl) (by simp [Act.put]) hS.out ?_
  apply Exists.intro
  refine And.intro (fun w' hS' => ?_) ?_
  · have hc0 := hS'.cell 0 _ rfl
    have hc1 := hS'.cell 1 _ rfl
    have hc2 := hS'.cell 2 _ rfl
    clear hS'
    go_wp2
    first
      | exact ⟨trivial, rfl⟩
      | rfl
  refine pl_take (i := 15) 18 rfl rfl rfl (by kernel_rfl) (by kernel_rfl) (by kernel_rfl) (by simp [Act.put]) hS.out ?_
  apply Exists.intro
  refine And.intro (fun w' hS' => ?_) ?_
  · have hc0 := hS'.cell 0 _ rfl
    have hc1 := hS'.cell 1 _ rfl
    have hc2 := hS'.cell 2 _ rfl
    clear hS'
    go_wp2
    first
      | exact ⟨trivial, rfl⟩
      | rfl
  refine pl_skip (i := 16) rfl (by kernel_rfl) (by kernel_rfl) (by kernel_rfl) (by kernel_rfl) hS.out ?_
  apply Exists.intro
  refine And.intro (by simp [Act.put, go_sem]; rfl) ?_
  refine pl_skip (i := 17) rfl (by kernel_rfl) (by kernel_rfl) (by kernel_rfl) (by kernel_rfl) hS.out ?_
  apply Exists.intro
  refine And.intro (by simp [Act.put, go_sem]; rfl) ?_
  refine pl_skip (i := 18) rfl (by kernel_rfl) (by kernel_rfl) (by kernel_rfl) (by kernel_rfl) hS.out ?_
  apply Exists.intro
  refine And.intro (by simp [Act.put, go_sem]; rfl) ?_
  refine pl_skip (i := 19) rfl (by kernel_rfl) (by kernel_rfl) (by kernel_rfl) (by kernel_rfl) hS.out ?_
  apply Exists.intro
  refine And.intro (by simp [Act.put, go_sem]; rfl) ?_
  refine pl_skip (i := 20) rfl (by kernel_rfl) (by kernel_rfl) (by kernel_rfl) (by kernel_rfl) hS.out ?_
  apply Exists.intro
  refine And.intro (by simp [Act.put, go_sem]; rfl) ?_
  refine pl_skip (i := 21) rfl (by kernel_rfl) (by kernel_rfl) (by kernel_rfl) (by kernel_rfl) hS.out ?_
  apply Exists.intro
  refine And.intro (by simp [Act.put, go_sem]; rfl) ?_
  refine pl_skip (i := 22) rfl (by kernel_rfl) (by kernel_rfl) (by kernel_rfl) (by kernel_rfl) hS.out ?_
  apply Exists.intro
  refine And.intro (by simp [Act.put, go_sem]; rfl) ?_
  refine pl_skip (i := 23) rfl (by kernel_rfl) (by kernel_rfl) (by kernel_rfl) (by kernel_rfl) hS.out ?_
  apply Exists.intro
  refine And.intro (by simp [Act.put, go_sem]; rfl) ?_
  refine pl_skip (i := 24) rfl (by kernel_rfl) (by kernel_rfl) (by kernel_rfl) (by kernel_rfl) hS.out ?_
  apply Exists.intro
  refine And.intro (by simp [Act.put, go_sem]; rfl) ?_
  refine pl_take (i := 25) 28 rfl rfl rfl (by kernel_rfl) (by kernel_rfl) (by kernel_rfl) (by simp [Act.put]) hS.out ?_
  apply Exists.intro
  refine And.intro (fun w' hS' => ?_) ?_
  · have hc0 := hS'.cell 0 _ rfl
    have hc1 := hS'.cell 1 _ rfl
    have hc2 := hS'.cell 2 _ rfl
    clear hS'
    go_wp2
    first
      | exact ⟨trivial, rfl⟩
      | rfl
  refine pl_take (i := 26) 2 rfl rfl rfl (by kernel_rfl) (by kernel_rfl) (by kernel_rfl) (by simp [Act.put]) hS.out ?_
  apply Exists.intro
  refine And.intro (fun w' hS' => ?_) ?_
  · have hc0 := hS'.cell 0 _ rfl
    have hc1 := hS'.cell 1 _ rfl
    have hc2 := hS'.cell 2 _ rfl
    clear hS'
    go_wp2
    first
      | exact ⟨trivial, rfl⟩
      | rfl
  refine pl_done (by kernel_rfl) ?_
  go_wp2
  go_ret
  exact ⟨rfl, B1.out⟩

set_option maxRecDepth 100000 in
set_option maxHeartbeats 2000000 in
theorem rmay_d (w : World) (n c : Nat) (a0 : Option Addr) (N c0 : Nat) (h1 : n < c) (h2 : c ≤ 1048576) :
    Calls Try.prog 58 #[.agg #[.int .i64 (n : Int), .int .i64 (c : Int), .slice a0 N c0]] w fun e w' => e = .returned (.bool (N == sizeM 20 n c)) ∧ Below w.heap.size w w' := by
  have CS := fun w0 => rsize_any 20 (by omega) w0 n c h1 (by omega)
  obtain ⟨s, hs⟩ : ∃ s, s = sizeM 20 n c := ⟨_, rfl⟩
  rw [← hs] at CS ⊢
  have i0 : (0 : Int) ≤ (n : Int) := by omega
  have i1 : (n : Int) < (c : Int) := by omega
  have i2 : (c : Int) ≤ 1048576 := by omega
  have CS := Lib.hid CS
  clear hs
  have HR : Hid (decide ((N : Int) = (s : Int)) = (N == s)) := Lib.hid (by
    rw [Bool.eq_iff_iff]
    simp only [decide_eq_true_eq, beq_iff_eq]
    omega)
  go_enter Try.func58, Try.ntmps58
  go_wp2_with fail
  obtain ⟨w1, h1, k1, b1, s1⟩ := alloc_cb w 92 [.int .i64 (n : Int), .int .i64 (c : Int), .slice a0 N c0]
  change Code.wp _ _ _ _ (w.alloc (.cells [.int .i64 (n : Int), .int .i64 (c : Int), .slice a0 N c0].toArray 92))
  rw [← h1]
  have hS : Hid (CB w1.drew 92 w.heap.size [.int .i64 (n : Int), .int .i64 (c : Int), .slice a0 N c0]) := Lib.hid k1
  have B1 : Hid (Below w.heap.size w w1.drew) := Lib.hid b1.drew
  clear h1 k1 b1 s1
  refine pl_start 27 rfl (fun w' => CB w' 92 w.heap.size [.int .i64 (n : Int), .int .i64 (c : Int), .slice a0 N c0]) (by kernel_rfl) ?_
  obtain ⟨w2, hw2⟩ : ∃ w2, w2 = w1.drew := ⟨_, rfl⟩
  rw [← hw2] at hS B1 ⊢
  clear hw2
  refine pl_take (i := 0) 3 rfl rfl rfl (by kernel_rfl) (by kernel_rfl) (by kernel_rfl) (by simp [Act.put]) hS.out ?_
  apply Exists.intro
  refine And.intro (fun w' hS' => ?_) ?_
  · have hc0 := hS'.cell 0 _ rfl
    have hc1 := hS'.cell 1 _ rfl
    have hc2 := hS'.cell 2 _ rfl
    clear hS'
    go_wp2
    first
      | exact ⟨trivial, rfl⟩
      | rfl
  refine pl_take (i := 1) 4 rfl rfl rfl (by kernel_rfl) (by kernel_rfl) (by kernel_rfl) (by simp [Act.put]) hS.out ?_
  apply Exists.intro
  refine And.intro (fun w' hS' => ?_) ?_
  · have hc0 := hS'.cell 0 _ rfl
    have hc1 := hS'.cell 1 _ rfl
    have hc2 := hS'.cell 2 _ rfl
    clear hS'
    go_wp2
    first
      | exact ⟨trivial, rfl⟩
      | rfl
  refine pl_take (i := 2) 5 rfl rfl rfl (by kernel_rfl) (by kernel_rfl) (by kernel_rfl) (by simp [Act.put]) hS.out ?_
  apply Exists.intro
  refine And.intro (fun w' hS' => ?_) ?_
  · have hc0 := hS'.cell 0 _ rfl
    have hc1 := hS'.cell 1 _ rfl
    have hc2 := hS'.cell 2 _ rfl
    clear hS'
    go_wp2
    first
      | exact ⟨trivial, rfl⟩
      | rfl
  try rw [hd2]
  refine pl_take (i := 3) 6 rfl rfl rfl (by kernel_rfl) (by kernel_rfl) (by kernel_rfl) (by simp [Act.put]) hS.out ?_
  apply Exists.intro
  refine And.intro (fun w' hS' => ?_) ?_
  · have hc0 := hS'.cell 0 _ rfl
    have hc1 := hS'.cell 1 _ rfl
    have hc2 := hS'.cell 2 _ rfl
    clear hS'
    go_wp2
    first
      | exact ⟨trivial, rfl⟩
      | rfl
  refine pl_take (i := 4) 7 rfl rfl rfl (by kernel_rfl) (by kernel_rfl) (by kernel_rfl) (by simp [Act.put]) hS.out ?_
  apply Exists.intro
  refine And.intro (fun w' hS' => ?_) ?_
  · have hc0 := hS'.cell 0 _ rfl
    have hc1 := hS'.cell 1 _ rfl
    have hc2 := hS'.cell 2 _ rfl
    clear hS'
    go_wp2
    first
      | exact ⟨trivial, rfl⟩
      | rfl
  refine pl_take (i := 5) 8 rfl rfl rfl (by kernel_rfl) (by kernel_rfl) (by kernel_rfl) (by simp [Act.put]) hS.out ?_
  apply Exists.intro
  refine And.intro (fun w' hS' => ?_) ?_
  · have hc0 := hS'.cell 0 _ rfl
    have hc1 := hS'.cell 1 _ rfl
    have hc2 := hS'.cell 2 _ rfl
    clear hS'
    go_wp2
    first
      | exact ⟨trivial, rfl⟩
      | rfl
  refine pl_take (i := 6) 9 rfl rfl rfl (by kernel_rfl) (by kernel_rfl) (by kernel_rfl) (by simp [Act.put]) hS.out ?_
  apply Exists.intro
  refine And.intro (fun w' hS' => ?_) ?_
  · have hc0 := hS'.cell 0 _ rfl
    have hc1 := hS'.cell 1 _ rfl
    have hc2 := hS'.cell 2 _ rfl
    clear hS'
    go_wp2
    first
      | exact ⟨trivial, rfl⟩
      | rfl
  refine pl_take (i := 7) 10 rfl rfl rfl (by kernel_rfl) (by kernel_rfl) (by kernel_rfl) (by simp [Act.put]) hS.out ?_
  apply Exists.intro
  refine And.intro (fun w' hS' => ?_) ?_
  · have hc0 := hS'.cell 0 _ rfl
    have hc1 := hS'.cell 1 _ rfl
    have hc2 := hS'.cell 2 _ rfl
    clear hS'
    go_wp2
    first
      | exact ⟨trivial, rfl⟩
      | rfl
  refine pl_take (i := 8) 11 rfl rfl rfl (by kernel_rfl) (by kernel_rfl) (by kernel_rfl) (by simp [Act.put]) hS.out ?_
  apply Exists.intro
  refine And.intro (fun w' hS' => ?_) ?_
  · have hc0 := hS'.cell 0 _ rfl
    have hc1 := hS'.cell 1 _ rfl
    have hc2 := hS'.cell 2 _ rfl
    clear hS'
    go_wp2
    first
      | exact ⟨trivial, rfl⟩
      | rfl
  try rw [hd8]
  refine pl_take (i := 9) 12 rfl rfl rfl (by kernel_rfl) (by kernel_rfl) (by kernel_rfl) (by simp [Act.put]) hS.out ?_
  apply Exists.intro
  refine And.intro (fun w' hS' => ?_) ?_
  · have hc0 := hS'.cell 0 _ rfl
    have hc1 := hS'.cell 1 _ rfl
    have hc2 := hS'.cell 2 _ rfl
    clear hS'
    go_wp2
    first
      | exact ⟨trivial, rfl⟩
      | rfl
  refine pl_take (i := 10) 13 rfl rfl rfl (by kernel_rfl) (by kernel_rfl) (by kernel_rfl) (by simp [Act.put]) hS.out ?_
  apply Exists.intro
  refine And.intro (fun w' hS' => ?_) ?_
  · have hc0 := hS'.cell 0 _ rfl
    have hc1 := hS'.cell 1 _ rfl
    have hc2 := hS'.cell 2 _ rfl
    clear hS'
    go_wp2
    first
      | exact ⟨trivial, rfl⟩
      | rfl
  refine pl_take (i := 11) 14 rfl rfl rfl (by kernel_rfl) (by kernel_rfl) (by kernel_rfl) (by simp [Act.put]) hS.out ?_
  apply Exists.intro
  refine And.intro (fun w' hS' => ?_) ?_
  · have hc0 := hS'.cell 0 _ rfl
    have hc1 := hS'.cell 1 _ rfl
    have hc2 := hS'.cell 2 _ rfl
    clear hS'
    go_wp2
    first
      | exact ⟨trivial, rfl⟩
      | rfl
  refine pl_take (i := 12) 15 rfl rfl rfl (by kernel_rfl) (by kernel_rfl) (by kernel_rfl) (by simp [Act.put]) hS.out ?_
  apply Exists.intro
  refine And.intro (fun w' hS' => ?_) ?_
  · have hc0 := hS'.cell 0 _ rfl
    have hc1 := hS'.cell 1 _ rfl
    have hc2 := hS'.cell 2 _ rfl
    clear hS'
    go_wp2
    first
      | exact ⟨trivial, rfl⟩
      | rfl
  refine pl_take (i := 13) 16 rfl rfl rfl (by kernel_rfl) (by kernel_rfl) (by kernel_rfl) (by simp [Act.put]) hS.out ?_
  apply Exists.intro
  refine And.intro (fun w' hS' => ?_) ?_
  · have hc0 := hS'.cell 0 _ rfl
    have hc1 := hS'.cell 1 _ rfl
    have hc2 := hS'.cell 2 _ rfl
    clear hS'
    go_wp2
    first
      | exact ⟨trivial, rfl⟩
      | rfl
  try rw [hd13]
  refine pl_take (i := 14) 17 rfl rfl rfl (by kernel_rfl) (by kernel_rfl) (by kernel_rfl) (by simp [Act.put]) hS.out ?_
  apply Exists.intro
  refine And.intro (fun w' hS' => ?_) ?_
  · have hc0 := hS'.cell 0 _ rfl
    have hc1 := hS'.cell 1 _ rfl
    have hc2 := hS'.cell 2 _ rfl
    clear hS'
    go_wp2
    first
      | exact ⟨trivial, rfl⟩
      | rfl
  refine pl_take (i := 15) 18 rfl rfl rfl (by kernel_rfl) (by kernel_rfl) (by kernel_rfl) (by simp [Act.put]) hS.out ?_
  apply Exists.intro
  refine And.intro (fun w' hS' => ?_) ?_
  · have hc0 := hS'.cell 0 _ rfl
    have hc1 := hS'.cell 1 _ rfl
    have hc2 := hS'.cell 2 _ rfl
    clear hS'
    go_wp2
    first
      | exact ⟨trivial, rfl⟩
      | rfl
  refine pl_take (i := 16) 19 rfl rfl rfl (by kernel_rfl) (by kernel_rfl) (by kernel_rfl) (by simp [Act.put]) hS.out ?_
  apply Exists.intro
  refine And.intro (fun w' hS' => ?_) ?_
  · have hc0 := hS'.cell 0 _ rfl
    have hc1 := hS'.cell 1 _ rfl
    have hc2 := hS'.cell 2 _ rfl
    clear hS'
    go_wp2
    first
      | exact ⟨trivial, rfl⟩
      | rfl
  refine pl_take (i := 17) 20 rfl rfl rfl (by kernel_rfl) (by kernel_rfl) (by kernel_rfl) (by simp [Act.put]) hS.out ?_
  apply Exists.intro
  refine And.intro (fun w' hS' => ?_) ?_
  · have hc0 := hS'.cell 0 _ rfl
    have hc1 := hS'.cell 1 _ rfl
    have hc2 := hS'.cell 2 _ rfl
    clear hS'
    go_wp2
    first
      | exact ⟨trivial, rfl⟩
      | rfl
  refine pl_take (i := 18) 21 rfl rfl rfl (by kernel_rfl) (by kernel_rfl) (by kernel_rfl) (by simp [Act.put]) hS.out ?_
  apply Exists.intro
  refine And.intro (fun w' hS' => ?_) ?_
  · have hc0 := hS'.cell 0 _ rfl
    have hc1 := hS'.cell 1 _ rfl
    have hc2 := hS'.cell 2 _ rfl
    clear hS'
    go_wp2
    first
      | exact ⟨trivial, rfl⟩
      | rfl
  refine pl_take (i := 19) 22 rfl rfl rfl (by kernel_rfl) (by kernel_rfl) (by kernel_rfl) (by simp [Act.put]) hS.out ?_
  apply Exists.intro
  refine And.intro (fun w' hS' => ?_) ?_
  · have hc0 := hS'.cell 0 _ rfl
    have hc1 := hS'.cell 1 _ rfl
    have hc2 := hS'.cell 2 _ rfl
    clear hS'
    go_wp2
    first
      | exact ⟨trivial, rfl⟩
      | rfl
  refine pl_take (i := 20) 23 rfl rfl rfl (by kernel_rfl) (by kernel_rfl) (by kernel_rfl) (by simp [Act.put]) hS.out ?_
  apply Exists.intro
  refine And.intro (fun w' hS' => ?_) ?_
  · have hc0 := hS'.cell 0 _ rfl
    have hc1 := hS'.cell 1 _ rfl
    have hc2 := hS'.cell 2 _ rfl
    clear hS'
    go_wp2
    first
      | exact ⟨trivial, rfl⟩
      | rfl
  refine pl_take (i := 21) 24 rfl rfl rfl (by kernel_rfl) (by kernel_rfl) (by kernel_rfl) (by simp [Act.put]) hS.out ?_
  apply Exists.intro
  refine And.intro (fun w' hS' => ?_) ?_
  · have hc0 := hS'.cell 0 _ rfl
    have hc1 := hS'.cell 1 _ rfl
    have hc2 := hS'.cell 2 _ rfl
    clear hS'
    go_wp2
    first
      | exact ⟨trivial, rfl⟩
      | rfl
  refine pl_take (i := 22) 25 rfl rfl rfl (by kernel_rfl) (by kernel_rfl) (by kernel_rfl) (by simp [Act.put]) hS.out ?_
  apply Exists.intro
  refine And.intro (fun w' hS' => ?_) ?_
  · have hc0 := hS'.cell 0 _ rfl
    have hc1 := hS'.cell 1 _ rfl
    have hc2 := hS'.cell 2 _ rfl
    clear hS'
    go_wp2
    first
      | exact ⟨trivial, rfl⟩
      | rfl
  refine pl_heavy (i := 23) rfl (by kernel_rfl) ?_
  go_wp2_with fail
  refine (CS.out _).mono ?_
  rintro e w3 ⟨rfl, rfl⟩
  go_wp2
  refine And.intro hS.out ?_
  refine pl_take (i := 24) 27 rfl rfl rfl (by kernel_rfl) (by kernel_rfl) (by kernel_rfl) (by simp [Act.put]) hS.out ?_
  apply Exists.intro
  refine And.intro (fun w' hS' => ?_) ?_
  · have hc0 := hS'.cell 0 _ rfl
    have hc1 := hS'.cell 1 _ rfl
    have hc2 := hS'.cell 2 _ rfl
    clear hS'
    go_wp2
    first
      | exact ⟨trivial, rfl⟩
      | rfl
  refine pl_take (i := 25) 28 rfl rfl rfl (by kernel_rfl) (by kernel_rfl) (by kernel_rfl) (by simp [Act.put]) hS.out ?_
  apply Exists.intro
  refine And.intro (fun w' hS' => ?_) ?_
  · have hc0 := hS'.cell 0 _ rfl
    have hc1 := hS'.cell 1 _ rfl
    have hc2 := hS'.cell 2 _ rfl
    clear hS'
    go_wp2
    first
      | exact ⟨trivial, rfl⟩
      | rfl
  refine pl_take (i := 26) 2 rfl rfl rfl (by kernel_rfl) (by kernel_rfl) (by kernel_rfl) (by simp [Act.put]) hS.out ?_
  apply Exists.intro
  refine And.intro (fun w' hS' => ?_) ?_
  · have hc0 := hS'.cell 0 _ rfl
    have hc1 := hS'.cell 1 _ rfl
    have hc2 := hS'.cell 2 _ rfl
    clear hS'
    go_wp2
    first
      | exact ⟨trivial, rfl⟩
      | rfl
  refine pl_done (by kernel_rfl) ?_
  go_wp2
  go_ret
  exact ⟨by rw [← HR.out]; rfl, B1.out⟩

theorem rmay_any (w : World) (n c : Int) (v : Value) (hs : List Bs) (h : Hs w v hs) :
    Calls Try.prog 58 #[.agg #[.int .i64 n, .int .i64 c, v]] w fun e w' => e = .returned (.bool (mayB n c hs)) ∧ Below w.heap.size w w' := by
  obtain ⟨a0, c0, rfl⟩ := h.slice
  by_cases h1 : n < 0
  · rw [show mayB n c hs = false by unfold mayB okPl; simp; omega]
    exact rmay_a w n c a0 _ c0 h1
  by_cases h2 : c ≤ n
  · rw [show mayB n c hs = false by unfold mayB okPl; simp; omega]
    exact rmay_b w n c a0 _ c0 h1 h2
  by_cases h3 : 1048576 < c
  · rw [show mayB n c hs = false by unfold mayB okPl; simp; omega]
    exact rmay_c w n c a0 _ c0 h1 h2 h3
  obtain ⟨a, rfl⟩ := Int.eq_ofNat_of_zero_le (show 0 ≤ n by omega)
  obtain ⟨b, rfl⟩ := Int.eq_ofNat_of_zero_le (show 0 ≤ c by omega)
  have h4 := rmay_d w a b a0 hs.length c0 (by omega) (by omega)
  rw [show mayB (a : Int) (b : Int) hs = (hs.length == sizeM 20 a b) by
    unfold mayB okPl
    simp only [Int.toNat_natCast]
    rw [show decide ((0 : Int) ≤ (a : Int)) = true by simp, show decide ((a : Int) < (b : Int)) = true by simp; omega, show decide ((b : Int) ≤ 1048576) = true by simp; omega]
    rfl]
  exact h4

end Go.Proofs.Ytbabjepblakboaa
