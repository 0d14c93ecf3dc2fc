/- Texts Yl Ym Yo, one behind the other. -/
import Derived.Test.YtbabjepblakboaaG5
/- Merkle: whether a path may be, what it comes to, whether it checks, by the reference: the walks. -/
namespace Go.Proofs.Ytbabjepblakboaa
set_option linter.unusedVariables false
set_option linter.unusedSimpArgs false
open Go.RowKit Go.Lib

set_option maxRecDepth 100000 in
set_option maxHeartbeats 2000000 in
theorem rmay_a (w : World) (n c : Int) (a0 : Option Addr) (N c0 : Nat) (h1 : n < 0) :
    Calls Try.prog 58 #[.agg #[.int .i64 n, .int .i64 c, .slice a0 N c0]] w fun e w' => e = .returned (.bool false) ∧ Below w.heap.size w w' := by
  have HR : Hid (false = false) := Lib.hid rfl
  have hd2 : decide (0 ≤ n) = false := by simp; omega
  go_enter Try.func58, Try.ntmps58
  go_wp2_with fail
  obtain ⟨w1, h1, k1, b1, s1⟩ := alloc_cb w 92 [.int .i64 n, .int .i64 c, .slice a0 N c0]
  change Code.wp _ _ _ _ (w.alloc (.cells [.int .i64 n, .int .i64 c, .slice a0 N c0].toArray 92))
  rw [← h1]
  have hS : Hid (CB w1.drew 92 w.heap.size [.int .i64 n, .int .i64 c, .slice a0 N c0]) := Lib.hid k1
  have B1 : Hid (Below w.heap.size w w1.drew) := Lib.hid b1.drew
  clear h1 k1 b1 s1
  refine pl_start 27 rfl (fun w' => CB w' 92 w.heap.size [.int .i64 n, .int .i64 c, .slice a0 N c0]) (by kernel_rfl) ?_
  obtain ⟨w2, hw2⟩ : ∃ w2, w2 = w1.drew := ⟨_, rfl⟩
  rw [← hw2] at hS B1 ⊢
  clear hw2
  refine pl_take (i := 0) 3 rfl rfl rfl (by kernel_rfl) (by kernel_rfl) (by kernel_rfl) (by simp [Act.put]) hS.out ?_
  apply Exists.intro
  refine And.intro (fun w' hS' => ?_) ?_
  · have hc0 := hS'.cell 0 _ rfl
    have hc1 := hS'.cell 1 _ rfl
    have hc2 := hS'.cell 2 _ rfl
    clear hS'
    go_wp2
    first
      | exact ⟨trivial, rfl⟩
      | rfl
  refine pl_take (i := 1) 4 rfl rfl rfl (by kernel_rfl) (by kernel_rfl) (by kernel_rfl) (by simp [Act.put]) hS.out ?_
  apply Exists.intro
  refine And.intro (fun w' hS' => ?_) ?_
  · have hc0 := hS'.cell 0 _ rfl
    have hc1 := hS'.cell 1 _ rfl
    have hc2 := hS'.cell 2 _ rfl
    clear hS'
    go_wp2
    first
      | exact ⟨trivial, rfl⟩
      | rfl
  refine pl_take (i := 2) 5 rfl rfl rfl (by kernel_rfl) (by kernel_rfl) (by kernel_rfl) (by simp [Act.put]) hS.out ?_
  apply Exists.intro
  refine And.intro (fun w' hS' => ?_) ?_
  · have hc0 := hS'.cell 0 _ rfl
    have hc1 := hS'.cell 1 _ rfl
    have hc2 := hS'.cell 2 _ rfl
    clear hS'
    go_wp2
    first
      | exact ⟨trivial, rfl⟩
      | rfl
  try rw [hd2]
  refine pl_take (i := 3) 6 rfl rfl rfl (by kernel_rfl) (by kernel_rfl) (by kernel_rfl) (by simp [Act.put]) hS.out ?_
  apply Exists.intro
  refine And.intro (fun w' hS' => ?_) ?_
  · have hc0 := hS'.cell 0 _ rfl
    have hc1 := hS'.cell 1 _ rfl
    have hc2 := hS'.cell 2 _ rfl
    clear hS'
    go_wp2
    first
      | exact ⟨trivial, rfl⟩
      | rfl
  refine pl_skip (i := 4) rfl (by kernel_rfl) (by kernel_rfl) (by kernel_rfl) (by kernel_rfl) hS.out ?_
  apply Exists.intro
  refine And.intro (by simp [Act.put, go_sem]; rfl) ?_
  refine pl_skip (i := 5) rfl (by kernel_rfl) (by kernel_rfl) (by kernel_rfl) (by kernel_rfl) hS.out ?_
  apply Exists.intro
  refine And.intro (by simp [Act.put, go_sem]; rfl) ?_
  refine pl_skip (i := 6) rfl (by kernel_rfl) (by kernel_rfl) (by kernel_rfl) (by kernel_rfl) hS.out ?_
  apply Exists.intro
  refine And.intro (by simp [Act.put, go_sem]; rfl) ?_
  refine pl_skip (i := 7) rfl (by kernel_rfl) (by kernel_rfl) (by kernel_rfl) (by kernel_rfl) hS.out ?_
  apply Exists.intro
  refine And.intro (by simp [Act.put, go_sem]; rfl) ?_
  refine pl_skip (i := 8) rfl (by kernel_rfl) (by kernel_rfl) (by kernel_rfl) (by kernel_rfl) hS.out ?_
  apply Exists.intro
  refine And.intro (by simp [Act.put, go_sem]; rfl) ?_
  try rw [hd8]
  refine pl_take (i := 9) 12 rfl rfl rfl (by kernel_rfl) (by kernel_rfl) (by kernel_rfl) (by simp [Act.put]) hS.out ?_
  apply Exists.intro
  refine And.intro (fun w' hS' => ?_) ?_
  · have hc0 := hS'.cell 0 _ rfl
    have hc1 := hS'.cell 1 _ rfl
    have hc2 := hS'.cell 2 _ rfl
    clear hS'
    go_wp2
    first
      | exact ⟨trivial, rfl⟩
      | rfl
  refine pl_take (i := 10) 13 rfl rfl rfl (by kernel_rfl) (by kernel_rfl) (by kernel_rfl) (by simp [Act.put]) hS.out ?_
  apply Exists.intro
  refine And.intro (fun w' hS' => ?_) ?_
  · have hc0 := hS'.cell 0 _ rfl
    have hc1 := hS'.cell 1 _ rfl
    have hc2 := hS'.cell 2 _ rfl
    clear hS'
    go_wp2
    first
      | exact ⟨trivial, rfl⟩
      | rfl
  refine pl_skip (i := 11) rfl (by kernel_rfl) (by kernel_rfl) (by kernel_rfl) (by kernel_rfl) hS.out ?_
  apply Exists.intro
  refine And.intro (by simp [Act.put, go_sem]; rfl) ?_
  refine pl_skip (i := 12) rfl (by kernel_rfl) (by kernel_rfl) (by kernel_rfl) (by kernel_rfl) hS.out ?_
  apply Exists.intro
  refine And.intro (by simp [Act.put, go_sem]; rfl) ?_
  refine pl_skip (i := 13) rfl (by kernel_rfl) (by kernel_rfl) (by kernel_rfl) (by kernel_rfl) hS.out ?_
  apply Exists.intro
  refine And.intro (by simp [Act.put, go_sem]; rfl) ?_
  try rw [hd13]
  refine pl_take (i := 14) 17 rfl rfl rfl (by kernel_rfl) (by kernel_rfl) (by kernel_rfl) (by simp [Act.put]) hS.out ?_
  apply Exists.intro
  refine And.intro (fun w' hS' => ?_) ?_
  · have hc0 := hS'.cell 0 _ rfl
    have hc1 := hS'.cell 1 _ rfl
    have hc2 := hS'.cell 2 _ rfl
    clear hS'
    go_wp2
    first
      | exact ⟨trivial, rfl⟩
      | rfl
  refine pl_take (i := 15) 18 rfl rfl rfl (by kernel_rfl) (by kernel_rfl) (by kernel_rfl) (by simp [Act.put]) hS.out ?_
  apply Exists.intro
  refine And.intro (fun w' hS' => ?_) ?_
  · have hc0 := hS'.cell 0 _ rfl
    have hc1 := hS'.cell 1 _ rfl
    have hc2 := hS'.cell 2 _ rfl
    clear hS'
    go_wp2
    first
      | exact ⟨trivial, rfl⟩
      | rfl
  refine pl_skip (i := 16) rfl (by kernel_rfl) (by kernel_rfl) (by kernel_rfl) (by kernel_rfl) hS.out ?_
  apply Exists.intro
  refine And.intro (by simp [Act.put, go_sem]; rfl) ?_
  refine pl_skip (i := 17) rfl (by kernel_rfl) (by kernel_rfl) (by kernel_rfl) (by kernel_rfl) hS.out ?_
  apply Exists.intro
  refine And.intro (by simp [Act.put, go_sem]; rfl) ?_
  refine pl_skip (i := 18) rfl (by kernel_rfl) (by kernel_rfl) (by kernel_rfl) (by kernel_rfl) hS.out ?_
  apply Exists.intro
  refine And.intro (by simp [Act.put, go_sem]; rfl) ?_
  refine pl_skip (i := 19) rfl (by kernel_rfl) (by kernel_rfl) (by kernel_rfl) (by kernel_rfl) hS.out ?_
  apply Exists.intro
  refine And.intro (by simp [Act.put, go_sem]; rfl) ?_
  refine pl_skip (i := 20) rfl (by kernel_rfl) (by kernel_rfl) (by kernel_rfl) (by kernel_rfl) hS.out ?_
  apply Exists.intro
  refine And.intro (by simp [Act.put, go_sem]; rfl) ?_
  refine pl_skip (i := 21) rfl (by kernel_rfl) (by kernel_rfl) (by kernel_rfl) (by kernel_rfl) hS.out ?_
  apply Exists.intro
  refine And.intro (by simp [Act.put, go_sem]; rfl) ?_
  refine pl_skip (i := 22) rfl (by kernel_rfl) (by kernel_rfl) (by kernel_rfl) (by kernel_rfl) hS.out ?_
  apply Exists.intro
  refine And.intro (by simp [Act.put, go_sem]; rfl) ?_
  refine pl_skip (i := 23) rfl (by kernel_rfl) (by kernel_rfl) (by kernel_rfl) (by kernel_rfl) hS.out ?_
  apply Exists.intro
  refine And.intro (by simp [Act.put, go_sem]; rfl) ?_
  refine pl_skip (i := 24) rfl (by kernel_rfl) (by kernel_rfl) (by kernel_rfl) (by kernel_rfl) hS.out ?_
  apply Exists.intro
  refine And.intro (by simp [Act.put, go_sem]; rfl) ?_
  refine pl_take (i := 25) 28 rfl rfl rfl (by kernel_rfl) (by kernel_rfl) (by kernel_rfl) (by simp [Act.put]) hS.out ?_
  apply Exists.intro
  refine And.intro (fun w' hS' => ?_) ?_
  · have hc0 := hS'.cell 0 _ rfl
    have hc1 := hS'.cell 1 _ rfl
    have hc2 := hS'.cell 2 _ rfl
    clear hS'
    go_wp2
    first
      | exact ⟨trivial, rfl⟩
      | rfl
  refine pl_take (i := 26) 2 rfl rfl rfl (by kernel_rfl) (by kernel_rfl) (by kernel_rfl) (by simp [Act.put]) hS.out ?_
  apply Exists.intro
  refine And.intro (fun w' hS' => ?_) ?_
  · have hc0 := hS'.cell 0 _ rfl
    have hc1 := hS'.cell 1 _ rfl
    have hc2 := hS'.cell 2 _ rfl
    clear hS'
    go_wp2
    first
      | exact ⟨trivial, rfl⟩
      | rfl
  refine pl_done (by kernel_rfl) ?_
  go_wp2
  go_ret
  exact ⟨rfl, B1.out⟩

set_option maxRecDepth 100000 in
set_option maxHeartbeats 2000000 in
theorem rmay_b (w : World) (n c : Int) (a0 : Option Addr) (N c0 : Nat) (h1 : ¬ (n < 0)) (h2 : c ≤ n) :
    Calls Try.prog 58 #[.agg #[.int .i64 n, .int .i64 c, .slice a0 N c0]] w fun e w' => e = .returned (.bool false) ∧ Below w.heap.size w w' := by
  have HR : Hid (false = false) := Lib.hid rfl
  have hd8 : decide (n < c) = false := by simp; omega
  go_enter Try.func58, Try.ntmps58
  go_wp2_with fail
  obtain ⟨w1, h1, k1, b1, s1⟩ := alloc_cb w 92 [.int .i64 n, .int .i64 c, .slice a0 N c0]
  change Code.wp _ _ _ _ (w.alloc (.cells [.int .i64 n, .int .i64 c, .slice a0 N c0].toArray 92))
  rw [← h1]
  have hS : Hid (CB w1.drew 92 w.heap.size [.int .i64 n, .int .i64 c, .slice a0 N c0]) := Lib.hid k1
  have B1 : Hid (Below w.heap.size w w1.drew) := Lib.hid b1.drew
  clear h1 k1 b1 s1
  refine pl_start 27 rfl (fun w' => CB w' 92 w.heap.size [.int .i64 n, .int .i64 c, .slice a0 N c0]) (by kernel_rfl) ?_
  obtain ⟨w2, hw2⟩ : ∃ w2, w2 = w1.drew := ⟨_, rfl⟩
  rw [← hw2] at hS B1 ⊢
  clear hw2
  refine pl_take (i := 0) 3 rfl rfl rfl (by kernel_rfl) (by kernel_rfl) (by kernel_rfl) (by simp [Act.put]) hS.out ?_
  apply Exists.intro
  refine And.intro (fun w' hS' => ?_) ?_
  · have hc0 := hS'.cell 0 _ rfl
    have hc1 := hS'.cell 1 _ rfl
    have hc2 := hS'.cell 2 _ rfl
    clear hS'
    go_wp2
    first
      | exact ⟨trivial, rfl⟩
      | rfl
  refine pl_take (i := 1) 4 rfl rfl rfl (by kernel_rfl) (by kernel_rfl) (by kernel_rfl) (by simp [Act.put]) hS.out ?_
  apply Exists.intro
  refine And.intro (fun w' hS' => ?_) ?_
  · have hc0 := hS'.cell 0 _ rfl
    have hc1 := hS'.cell 1 _ rfl
    have hc2 := hS'.cell 2 _ rfl
    clear hS'
    go_wp2
    first
      | exact ⟨trivial, rfl⟩
      | rfl
  refine pl_take (i := 2) 5 rfl rfl rfl (by kernel_rfl) (by kernel_rfl) (by kernel_rfl) (by simp [Act.put]) hS.out ?_
  apply Exists.intro
  refine And.intro (fun w' hS' => ?_) ?_
  · have hc0 := hS'.cell 0 _ rfl
    have hc1 := hS'.cell 1 _ rfl
    have hc2 := hS'.cell 2 _ rfl
    clear hS'
    go_wp2
    first
      | exact ⟨trivial, rfl⟩
      | rfl
  try rw [hd2]
  refine pl_take (i := 3) 6 rfl rfl rfl (by kernel_rfl) (by kernel_rfl) (by kernel_rfl) (by simp [Act.put]) hS.out ?_
  apply Exists.intro
  refine And.intro (fun w' hS' => ?_) ?_
  · have hc0 := hS'.cell 0 _ rfl
    have hc1 := hS'.cell 1 _ rfl
    have hc2 := hS'.cell 2 _ rfl
    clear hS'
    go_wp2
    first
      | exact ⟨trivial, rfl⟩
      | rfl
  refine pl_take (i := 4) 7 rfl rfl rfl (by kernel_rfl) (by kernel_rfl) (by kernel_rfl) (by simp [Act.put]) hS.out ?_
  apply Exists.intro
  refine And.intro (fun w' hS' => ?_) ?_
  · have hc0 := hS'.cell 0 _ rfl
    have hc1 := hS'.cell 1 _ rfl
    have hc2 := hS'.cell 2 _ rfl
    clear hS'
    go_wp2
    first
      | exact ⟨trivial, rfl⟩
      | rfl
  refine pl_take (i := 5) 8 rfl rfl rfl (by kernel_rfl) (by kernel_rfl) (by kernel_rfl) (by simp [Act.put]) hS.out ?_
  apply Exists.intro
  refine And.intro (fun w' hS' => ?_) ?_
  · have hc0 := hS'.cell 0 _ rfl
    have hc1 := hS'.cell 1 _ rfl
    have hc2 := hS'.cell 2 _ rfl
    clear hS'
    go_wp2
    first
      | exact ⟨trivial, rfl⟩
      | rfl
  refine pl_take (i := 6) 9 rfl rfl rfl (by kernel_rfl) (by kernel_rfl) (by kernel_rfl) (by simp [Act.put]) hS.out ?_
  apply Exists.intro
  refine And.intro (fun w' hS' => ?_) ?_
  · have hc0 := hS'.cell 0 _ rfl
    have hc1 := hS'.cell 1 _ rfl
    have hc2 := hS'.cell 2 _ rfl
    clear hS'
    go_wp2
    first
      | exact ⟨trivial, rfl⟩
      | rfl
  refine pl_take (i := 7) 10 rfl rfl rfl (by kernel_rfl) (by kernel_rfl) (by kernel_rfl) (by simp [Act.put]) hS.out ?_
  apply Exists.intro
  refine And.intro (fun w' hS' => ?_) ?_
  · have hc0 := hS'.cell 0 _ rfl
    have hc1 := hS'.cell 1 _ rfl
    have hc2 := hS'.cell 2 _ rfl
    clear hS'
    go_wp2
    first
      | exact ⟨trivial, rfl⟩
      | rfl
  refine pl_take (i := 8) 11 rfl rfl rfl (by kernel_rfl) (by kernel_rfl) (by kernel_rfl) (by simp [Act.put]) hS.out ?_
  apply Exists.intro
  refine And.intro (fun w' hS' => ?_) ?_
  · have hc0 := hS'.cell 0 _ rfl
    have hc1 := hS'.cell 1 _ rfl
    have hc2 := hS'.cell 2 _ rfl
    clear hS'
    go_wp2
    first
      | exact ⟨trivial, rfl⟩
      | rfl
  try rw [hd8]
  refine pl_take (i := 9) 12 rfl rfl rfl (by kernel_rfl) (by kernel_rfl) (by kernel_rfl) (by simp [Act.put]) hS.out ?_
  apply Exists.intro
  refine And.intro (fun w' hS' => ?_) ?_
  · have hc0 := hS'.cell 0 _ rfl
    have hc1 := hS'.cell 1 _ rfl
    have hc2 := hS'.cell 2 _ rfl
    clear hS'
    go_wp2
    first
      | exact ⟨trivial, rfl⟩
      | rfl
  refine pl_take (i := 10) 13 rfl rfl rfl (by kernel_rfl) (by kernel_rfl) (by kernel_rfl) (by simp [Act.put]) hS.out ?_
  apply Exists.intro
  refine And.intro (fun w' hS' => ?_) ?_
  · have hc0 := hS'.cell 0 _ rfl
    have hc1 := hS'.cell 1 _ rfl
    have hc2 := hS'.cell 2 _ rfl
    clear hS'
    go_wp2
    first
      | exact ⟨trivial, rfl⟩
      | rfl
  refine pl_skip (i := 11) rfl (by kernel_rfl) (by kernel_rfl) (by kernel_rfl) (by kernel_rfl) hS.out ?_
  apply Exists.intro
  refine And.intro (by simp [Act.put, go_sem]; rfl) ?_
  refine pl_skip (i := 12) rfl (by kernel_rfl) (by kernel_rfl) (by kernel_rfl) (by kernel_rfl) hS.out ?_
  apply Exists.intro
  refine And.intro (by simp [Act.put, go_sem]; rfl) ?_
  refine pl_skip (i := 13) rfl (by kernel_rfl) (by kernel_rfl) (by kernel_rfl) (by kernel_rfl) hS.out ?_
  apply Exists.intro
  refine And.intro (by simp [Act.put, go_sem]; rfl) ?_
  try rw [hd13]
  refine pl_take (i := 14) 17 rfl rfl rfl (by kernel_rfl) (by kernel_rfl) (by kernel_rfl) (by simp [Act.put]) hS.out ?_
  apply Exists.intro
  refine And.intro (fun w' hS' => ?_) ?_
  · have hc0 := hS'.cell 0 _ rfl
    have hc1 := hS'.cell 1 _ rfl
    have hc2 := hS'.cell 2 _ rfl
    clear hS'
    go_wp2
    first
      | exact ⟨trivial, rfl⟩
      | rfl
  refine pl_take (i := 15) 18 rfl rfl rfl (by kernel_rfl) (by kernel_rfl) (by kernel_rfl) (by simp [Act.put]) hS.out ?_
  apply Exists.intro
  refine And.intro (fun w' hS' => ?_) ?_
  · have hc0 := hS'.cell 0 _ rfl
    have hc1 := hS'.cell 1 _ rfl
    have hc2 := hS'.cell 2 _ rfl
    clear hS'
    go_wp2
    first
      | exact ⟨trivial, rfl⟩
      | rfl
  refine pl_skip (i := 16) rfl (by kernel_rfl) (by kernel_rfl) (by kernel_rfl) (by kernel_rfl) hS.out ?_
  apply Exists.intro
  refine And.intro (by simp [Act.put, go_sem]; rfl) ?_
  refine pl_skip (i := 17) rfl (by kernel_rfl) (by kernel_rfl) (by kernel_rfl) (by kernel_rfl) hS.out ?_
  apply Exists.intro
  refine And.intro (by simp [Act.put, go_sem]; rfl) ?_
  refine pl_skip (i := 18) rfl (by kernel_rfl) (by kernel_rfl) (by kernel_rfl) (by kernel_rfl) hS.out ?_
  apply Exists.intro
  refine And.intro (by simp [Act.put, go_sem]; rfl) ?_
  refine pl_skip (i := 19) rfl (by kernel_rfl) (by kernel_rfl) (by kernel_rfl) (by kernel_rfl) hS.out ?_
  apply Exists.intro
  refine And.intro (by simp [Act.put, go_sem]; rfl) ?_
  refine pl_skip (i := 20) rfl (by kernel_rfl) (by kernel_rfl) (by kernel_rfl) (by kernel_rfl) hS.out ?_
  apply Exists.intro
  refine And.intro (by simp [Act.put, go_sem]; rfl) ?_
  refine pl_skip (i := 21) rfl (by kernel_rfl) (by kernel_rfl) (by kernel_rfl) (by kernel_rfl) hS.out ?_
  apply Exists.intro
  refine And.intro (by simp [Act.put, go_sem]; rfl) ?_
  refine pl_skip (i := 22) rfl (by kernel_rfl) (by kernel_rfl) (by kernel_rfl) (by kernel_rfl) hS.out ?_
  apply Exists.intro
  refine And.intro (by simp [Act.put, go_sem]; rfl) ?_
  refine pl_skip (i := 23) rfl (by kernel_rfl) (by kernel_rfl) (by kernel_rfl) (by kernel_rfl) hS.out ?_
  apply Exists.intro
  refine And.intro (by simp [Act.put, go_sem]; rfl) ?_
  refine pl_skip (i := 24) rfl (by kernel_rfl) (by kernel_rfl) (by kernel_rfl) (by kernel_rfl) hS.out ?_
  apply Exists.intro
  refine And.intro (by simp [Act.put, go_sem]; rfl) ?_
  refine pl_take (i := 25) 28 rfl rfl rfl (by kernel_rfl) (by kernel_rfl) (by kernel_rfl) (by simp [Act.put]) hS.out ?_
  apply Exists.intro
  refine And.intro (fun w' hS' => ?_) ?_
  · have hc0 := hS'.cell 0 _ rfl
    have hc1 := hS'.cell 1 _ rfl
    have hc2 := hS'.cell 2 _ rfl
    clear hS'
    go_wp2
    first
      | exact ⟨trivial, rfl⟩
      | rfl
  refine pl_take (i := 26) 2 rfl rfl rfl (by kernel_rfl) (by kernel_rfl) (by kernel_rfl) (by simp [Act.put]) hS.out ?_
  apply Exists.intro
  refine And.intro (fun w' hS' => ?_) ?_
  · have hc0 := hS'.cell 0 _ rfl
    have hc1 := hS'.cell 1 _ rfl
    have hc2 := hS'.cell 2 _ rfl
    clear hS'
    go_wp2
    first
      | exact ⟨trivial, rfl⟩
      | rfl
  refine pl_done (by kernel_rfl) ?_
  go_wp2
  go_ret
  exact ⟨rfl, B1.out⟩

set_option maxRecDepth 100000 in
set_option maxHeartbeats 2000000 in
theorem rmay_c (w : World) (n c : Int) (a0 : Option Addr) (N c0 : Nat) (h1 : ¬ (n < 0)) (h2 : ¬ (c ≤ n)) (h3 : 1048576 < c) :
    Calls Try.prog 58 #[.agg #[.int .i64 n, .int .i64 c, .slice a0 N c0]] w fun e w' => e = .returned (.bool false) ∧ Below w.heap.size w w' := by
  have HR : Hid (false = false) := Lib.hid rfl
  have hd13 : decide (c ≤ 1048576) = false := by simp; omega
  go_enter Try.func58, Try.ntmps58
  go_wp2_with fail
  obtain ⟨w1, h1, k1, b1, s1⟩ := alloc_cb w 92 [.int .i64 n, .int .i64 c, .slice a0 N c0]
  change Code.wp _ _ _ _ (w.alloc (.cells [.int .i64 n, .int .i64 c, .slice a0 N c0].toArray 92))
  rw [← h1]
  have hS : Hid (CB w1.drew 92 w.heap.size [.int .i64 n, .int .i64 c, .slice a0 N c0]) := Lib.hid k1
  have B1 : Hid (Below w.heap.size w w1.drew) := Lib.hid b1.drew
  clear h1 k1 b1 s1
  refine pl_start 27 rfl (fun w' => CB w' 92 w.heap.size [.int .i64 n, .int .i64 c, .slice a0 N c0]) (by kernel_rfl) ?_
  obtain ⟨w2, hw2⟩ : ∃ w2, w2 = w1.drew := ⟨_, rfl⟩
  rw [← hw2] at hS B1 ⊢
  clear hw2
  refine pl_take (i := 0) 3 rfl rfl rfl (by kernel_rfl) (by kernel_rfl) (by kernel_rfl) (by simp [Act.put]) hS.out ?_
  apply Exists.intro
  refine And.intro (fun w' hS' => ?_) ?_
  · have hc0 := hS'.cell 0 _ rfl
    have hc1 := hS'.cell 1 _ rfl
    have hc2 := hS'.cell 2 _ rfl
    clear hS'
    go_wp2
    first
      | exact ⟨trivial, rfl⟩
      | rfl
  refine pl_take (i := 1) 4 rfl rfl rfl (by kernel_rfl) (by kernel_rfl) (by kernel_rfl) (by simp [Act.put]) hS.out ?_
  apply Exists.intro
  refine And.intro (fun w' hS' => ?_) ?_
  · have hc0 := hS'.cell 0 _ rfl
    have hc1 := hS'.cell 1 _ rfl
    have hc2 := hS'.cell 2 _ rfl
    clear hS'
    go_wp2
    first
      | exact ⟨trivial, rfl⟩
      | rfl
  refine pl_take (i := 2) 5 rfl rfl rfl (by kernel_rfl) (by kernel_rfl) (by kernel_rfl) (by simp [Act.put]) hS.out ?_
  apply Exists.intro
  refine And.intro (fun w' hS' => ?_) ?_
  · have hc0 := hS'.cell 0 _ rfl
    have hc1 := hS'.cell 1 _ rfl
    have hc2 := hS'.cell 2 _ rfl
    clear hS'
    go_wp2
    first
      | exact ⟨trivial, rfl⟩
      | rfl
  try rw [hd2]
  refine pl_take (i := 3) 6 rfl rfl rfl (by kernel_rfl) (by kernel_rfl) (by kernel_rfl) (by simp [Act.put]) hS.out ?_
  apply Exists.intro
  refine And.intro (fun w' hS' => ?_) ?_
  · have hc0 := hS'.cell 0 _ rfl
    have hc1 := hS'.cell 1 _ rfl
    have hc2 := hS'.cell 2 _ rfl
    clear hS'
    go_wp2
    first
      | exact ⟨trivial, rfl⟩
      | rfl
  refine pl_take (i := 4) 7 rfl rfl rfl (by kernel_rfl) (by kernel_rfl) (by kernel_rfl) (by simp [Act.put]) hS.out ?_
  apply Exists.intro
  refine And.intro (fun w' hS' => ?_) ?_
  · have hc0 := hS'.cell 0 _ rfl
    have hc1 := hS'.cell 1 _ rfl
    have hc2 := hS'.cell 2 _ rfl
    clear hS'
    go_wp2
    first
      | exact ⟨trivial, rfl⟩
      | rfl
  refine pl_take (i := 5) 8 rfl rfl rfl (by kernel_rfl) (by kernel_rfl) (by kernel_rfl) (by simp [Act.put]) hS.out ?_
  apply Exists.intro
  refine And.intro (fun w' hS' => ?_) ?_
  · have hc0 := hS'.cell 0 _ rfl
    have hc1 := hS'.cell 1 _ rfl
    have hc2 := hS'.cell 2 _ rfl
    clear hS'
    go_wp2
    first
      | exact ⟨trivial, rfl⟩
      | rfl
  refine pl_take (i := 6) 9 rfl rfl rfl (by kernel_rfl) (by kernel_rfl) (by kernel_rfl) (by simp [Act.put]) hS.out ?_
  apply Exists.intro
  refine And.intro (fun w' hS' => ?_) ?_
  · have hc0 := hS'.cell 0 _ rfl
    have hc1 := hS'.cell 1 _ rfl
    have hc2 := hS'.cell 2 _ rfl
    clear hS'
    go_wp2
    first
      | exact ⟨trivial, rfl⟩
      | rfl
  refine pl_take (i := 7) 10 rfl rfl rfl (by kernel_rfl) (by kernel_rfl) (by kernel_rfl) (by simp [Act.put]) hS.out ?_
  apply Exists.intro
  refine And.intro (fun w' hS' => ?_) ?_
  · have hc0 := hS'.cell 0 _ rfl
    have hc1 := hS'.cell 1 _ rfl
    have hc2 := hS'.cell 2 _ rfl
    clear hS'
    go_wp2
    first
      | exact ⟨trivial, rfl⟩
      | rfl
  refine pl_take (i := 8) 11 rfl rfl rfl (by kernel_rfl) (by kernel_rfl) (by kernel_rfl) (by simp [Act.put]) hS.out ?_
  apply Exists.intro
  refine And.intro (fun w' hS' => ?_) ?_
  · have hc0 := hS'.cell 0 _ rfl
    have hc1 := hS'.cell 1 _ rfl
    have hc2 := hS'.cell 2 _ rfl
    clear hS'
    go_wp2
    first
      | exact ⟨trivial, rfl⟩
      | rfl
  try rw [hd8]
  refine pl_take (i := 9) 12 rfl rfl rfl (by kernel_rfl) (by kernel_rfl) (by kernel_rfl) (by simp [Act.put]) hS.out ?_
  apply Exists.intro
  refine And.intro (fun w' hS' => ?_) ?_
  · have hc0 := hS'.cell 0 _ rfl
    have hc1 := hS'.cell 1 _ rfl
    have hc2 := hS'.cell 2 _ rfl
    clear hS'
    go_wp2
    first
      | exact ⟨trivial, rfl⟩
      | rfl
  refine pl_take (i := 10) 13 rfl rfl rfl (by kernel_rfl) (by kernel_rfl) (by kernel_rfl) (by simp [Act.put]) hS.out ?_
  apply Exists.intro
  refine And.intro (fun w' hS' => ?_) ?_
  · have hc0 := hS'.cell 0 _ rfl
    have hc1 := hS'.cell 1 _ rfl
    have hc2 := hS'.cell 2 _ rfl
    clear hS'
    go_wp2
    first
      | exact ⟨trivial, rfl⟩
      | rfl
  refine pl_take (i := 11) 14 rfl rfl rfl (by kernel_rfl) (by kernel_rfl) (by kernel_rfl) (by simp [Act.put]) hS.out ?_
  apply Exists.intro
  refine And.intro (fun w' hS' => ?_) ?_
  · have hc0 := hS'.cell 0 _ rfl
    have hc1 := hS'.cell 1 _ rfl
    have hc2 := hS'.cell 2 _ rfl
    clear hS'
    go_wp2
    first
      | exact ⟨trivial, rfl⟩
      | rfl
  refine pl_take (i := 12) 15 rfl rfl rfl (by kernel_rfl) (by kernel_rfl) (by kernel_rfl) (by simp [Act.put]) hS.out ?_
  apply Exists.intro
  refine And.intro (fun w' hS' => ?_) ?_
  · have hc0 := hS'.cell 0 _ rfl
    have hc1 := hS'.cell 1 _ rfl
    have hc2 := hS'.cell 2 _ rfl
    clear hS'
    go_wp2
    first
      | exact ⟨trivial, rfl⟩
      | rfl
  refine pl_take (i := 13) 16 rfl rfl rfl (by kernel_rfl) (by kernel_rfl) (by kernel_rfl) (by simp [Act.put]) hS.out ?_
  apply Exists.intro
  refine And.intro (fun w' hS' => ?_) ?_
  · have hc0 := hS'.cell 0 _ rfl
    have hc1 := hS'.cell 1 _ rfl
    have hc2 := hS'.cell 2 _ rfl
    clear hS'
    go_wp2
    first
      | exact ⟨trivial, rfl⟩
      | rfl
  try rw [hd13]
  refine pl_take (i := 14) 17 rfl rfl rfl (by kernel_rfl) (by kernel_rfl) (by kernel_rfl) (by simp [Act.put]) hS.out ?_
  apply Exists.intro
  refine And.intro (fun w' hS' => ?_) ?_
  · have hc0 := hS'.cell 0 _ rfl
    have hc1 := hS'.cell 1 _ rfl
    have hc2 := hS'.cell 2 _ rfl
    clear hS'
    go_wp2
    first
      | exact ⟨trivial, rfl⟩
      | rfl
  refine pl_take (i := 15) 18 rfl rfl rfl (by kernel_rfl) (by kernel_rfl) (by kernel_rfl) (by simp [Act.put]) hS.out ?_
  apply Exists.intro
  refine And.intro (fun w' hS' => ?_) ?_
  · have hc0 := hS'.cell 0 _ rfl
    have hc1 := hS'.cell 1 _ rfl
    have hc2 := hS'.cell 2 _ rfl
    clear hS'
    go_wp2
    first
      | exact ⟨trivial, rfl⟩
      | rfl
  refine pl_skip (i := 16) rfl (by kernel_rfl) (by kernel_rfl) (by kernel_rfl) (by kernel_rfl) hS.out ?_
  apply Exists.intro
  refine And.intro (by simp [Act.put, go_sem]; rfl) ?_
  refine pl_skip (i := 17) rfl (by kernel_rfl) (by kernel_rfl) (by kernel_rfl) (by kernel_rfl) hS.out ?_
  apply Exists.intro
  refine And.intro (by simp [Act.put, go_sem]; rfl) ?_
  refine pl_skip (i := 18) rfl (by kernel_rfl) (by kernel_rfl) (by kernel_rfl) (by kernel_rfl) hS.out ?_
  apply Exists.intro
  refine And.intro (by simp [Act.put, go_sem]; rfl) ?_
  refine pl_skip (i := 19) rfl (by kernel_rfl) (by kernel_rfl) (by kernel_rfl) (by kernel_rfl) hS.out ?_
  apply Exists.intro
  refine And.intro (by simp [Act.put, go_sem]; rfl) ?_
  refine pl_skip (i := 20) rfl (by kernel_rfl) (by kernel_rfl) (by kernel_rfl) (by kernel_rfl) hS.out ?_
  apply Exists.intro
  refine And.intro (by simp [Act.put, go_sem]; rfl) ?_
  refine pl_skip (i := 21) rfl (by kernel_rfl) (by kernel_rfl) (by kernel_rfl) (by kernel_rfl) hS.out ?_
  apply Exists.intro
  refine And.intro (by simp [Act.put, go_sem]; rfl) ?_
  refine pl_skip (i := 22) rfl (by kernel_rfl) (by kernel_rfl) (by kernel_rfl) (by kernel_rfl) hS.out ?_
  apply Exists.intro
  refine And.intro (by simp [Act.put, go_sem]; rfl) ?_
  refine pl_skip (i := 23) rfl (by kernel_rfl) (by kernel_rfl) (by kernel_rfl) (by kernel_rfl) hS.out ?_
  apply Exists.intro
  refine And.intro (by simp [Act.put, go_sem]; rfl) ?_
  refine pl_skip (i := 24) rfl (by kernel_rfl) (by kernel_rfl) (by kernel_rfl) (by kernel_rfl) hS.out ?_
  apply Exists.intro
  refine And.intro (by simp [Act.put, go_sem]; rfl) ?_
  refine pl_take (i := 25) 28 rfl rfl rfl (by kernel_rfl) (by kernel_rfl) (by kernel_rfl) (by simp [Act.put]) hS.out ?_
  apply Exists.intro
  refine And.intro (fun w' hS' => ?_) ?_
  · have hc0 := hS'.cell 0 _ rfl
    have hc1 := hS'.cell 1 _ rfl
    have hc2 := hS'.cell 2 _ rfl
    clear hS'
    go_wp2
    first
      | exact ⟨trivial, rfl⟩
      | rfl
  refine pl_take (i := 26) 2 rfl rfl rfl (by kernel_rfl) (by kernel_rfl) (by kernel_rfl) (by simp [Act.put]) hS.out ?_
  apply Exists.intro
  refine And.intro (fun w' hS' => ?_) ?_
  · have hc0 := hS'.cell 0 _ rfl
    have hc1 := hS'.cell 1 _ rfl
    have hc2 := hS'.cell 2 _ rfl
    clear hS'
    go_wp2
    first
      | exact ⟨trivial, rfl⟩
      | rfl
  refine pl_done (by kernel_rfl) ?_
  go_wp2
  go_ret
  exact ⟨rfl, B1.out⟩

set_option maxRecDepth 100000 in
set_option maxHeartbeats 2000000 in
theorem rmay_d (w : World) (n c : Nat) (a0 : Option Addr) (N c0 : Nat) (h1 : n < c) (h2 : c ≤ 1048576) :
    Calls Try.prog 58 #[.agg #[.int .i64 (n : Int), .int .i64 (c : Int), .slice a0 N c0]] w fun e w' => e = .returned (.bool (N == sizeM 20 n c)) ∧ Below w.heap.size w w' := by
  have CS := fun w0 => rsize_any 20 (by omega) w0 n c h1 (by omega)
  obtain ⟨s, hs⟩ : ∃ s, s = sizeM 20 n c := ⟨_, rfl⟩
  rw [← hs] at CS ⊢
  have i0 : (0 : Int) ≤ (n : Int) := by omega
  have i1 : (n : Int) < (c : Int) := by omega
  have i2 : (c : Int) ≤ 1048576 := by omega
  have CS := Lib.hid CS
  clear hs
  have HR : Hid (decide ((N : Int) = (s : Int)) = (N == s)) := Lib.hid (by
    rw [Bool.eq_iff_iff]
    simp only [decide_eq_true_eq, beq_iff_eq]
    omega)
  go_enter Try.func58, Try.ntmps58
  go_wp2_with fail
  obtain ⟨w1, h1, k1, b1, s1⟩ := alloc_cb w 92 [.int .i64 (n : Int), .int .i64 (c : Int), .slice a0 N c0]
  change Code.wp _ _ _ _ (w.alloc (.cells [.int .i64 (n : Int), .int .i64 (c : Int), .slice a0 N c0].toArray 92))
  rw [← h1]
  have hS : Hid (CB w1.drew 92 w.heap.size [.int .i64 (n : Int), .int .i64 (c : Int), .slice a0 N c0]) := Lib.hid k1
  have B1 : Hid (Below w.heap.size w w1.drew) := Lib.hid b1.drew
  clear h1 k1 b1 s1
  refine pl_start 27 rfl (fun w' => CB w' 92 w.heap.size [.int .i64 (n : Int), .int .i64 (c : Int), .slice a0 N c0]) (by kernel_rfl) ?_
  obtain ⟨w2, hw2⟩ : ∃ w2, w2 = w1.drew := ⟨_, rfl⟩
  rw [← hw2] at hS B1 ⊢
  clear hw2
  refine pl_take (i := 0) 3 rfl rfl rfl (by kernel_rfl) (by kernel_rfl) (by kernel_rfl) (by simp [Act.put]) hS.out ?_
  apply Exists.intro
  refine And.intro (fun w' hS' => ?_) ?_
  · have hc0 := hS'.cell 0 _ rfl
    have hc1 := hS'.cell 1 _ rfl
    have hc2 := hS'.cell 2 _ rfl
    clear hS'
    go_wp2
    first
      | exact ⟨trivial, rfl⟩
      | rfl
  refine pl_take (i := 1) 4 rfl rfl rfl (by kernel_rfl) (by kernel_rfl) (by kernel_rfl) (by simp [Act.put]) hS.out ?_
  apply Exists.intro
  refine And.intro (fun w' hS' => ?_) ?_
  · have hc0 := hS'.cell 0 _ rfl
    have hc1 := hS'.cell 1 _ rfl
    have hc2 := hS'.cell 2 _ rfl
    clear hS'
    go_wp2
    first
      | exact ⟨trivial, rfl⟩
      | rfl
  refine pl_take (i := 2) 5 rfl rfl rfl (by kernel_rfl) (by kernel_rfl) (by kernel_rfl) (by simp [Act.put]) hS.out ?_
  apply Exists.intro
  refine And.intro (fun w' hS' => ?_) ?_
  · have hc0 := hS'.cell 0 _ rfl
    have hc1 := hS'.cell 1 _ rfl
    have hc2 := hS'.cell 2 _ rfl
    clear hS'
    go_wp2
    first
      | exact ⟨trivial, rfl⟩
      | rfl
  try rw [hd2]
  refine pl_take (i := 3) 6 rfl rfl rfl (by kernel_rfl) (by kernel_rfl) (by kernel_rfl) (by simp [Act.put]) hS.out ?_
  apply Exists.intro
  refine And.intro (fun w' hS' => ?_) ?_
  · have hc0 := hS'.cell 0 _ rfl
    have hc1 := hS'.cell 1 _ rfl
    have hc2 := hS'.cell 2 _ rfl
    clear hS'
    go_wp2
    first
      | exact ⟨trivial, rfl⟩
      | rfl
  refine pl_take (i := 4) 7 rfl rfl rfl (by kernel_rfl) (by kernel_rfl) (by kernel_rfl) (by simp [Act.put]) hS.out ?_
  apply Exists.intro
  refine And.intro (fun w' hS' => ?_) ?_
  · have hc0 := hS'.cell 0 _ rfl
    have hc1 := hS'.cell 1 _ rfl
    have hc2 := hS'.cell 2 _ rfl
    clear hS'
    go_wp2
    first
      | exact ⟨trivial, rfl⟩
      | rfl
  refine pl_take (i := 5) 8 rfl rfl rfl (by kernel_rfl) (by kernel_rfl) (by kernel_rfl) (by simp [Act.put]) hS.out ?_
  apply Exists.intro
  refine And.intro (fun w' hS' => ?_) ?_
  · have hc0 := hS'.cell 0 _ rfl
    have hc1 := hS'.cell 1 _ rfl
    have hc2 := hS'.cell 2 _ rfl
    clear hS'
    go_wp2
    first
      | exact ⟨trivial, rfl⟩
      | rfl
  refine pl_take (i := 6) 9 rfl rfl rfl (by kernel_rfl) (by kernel_rfl) (by kernel_rfl) (by simp [Act.put]) hS.out ?_
  apply Exists.intro
  refine And.intro (fun w' hS' => ?_) ?_
  · have hc0 := hS'.cell 0 _ rfl
    have hc1 := hS'.cell 1 _ rfl
    have hc2 := hS'.cell 2 _ rfl
    clear hS'
    go_wp2
    first
      | exact ⟨trivial, rfl⟩
      | rfl
  refine pl_take (i := 7) 10 rfl rfl rfl (by kernel_rfl) (by kernel_rfl) (by kernel_rfl) (by simp [Act.put]) hS.out ?_
  apply Exists.intro
  refine And.intro (fun w' hS' => ?_) ?_
  · have hc0 := hS'.cell 0 _ rfl
    have hc1 := hS'.cell 1 _ rfl
    have hc2 := hS'.cell 2 _ rfl
    clear hS'
    go_wp2
    first
      | exact ⟨trivial, rfl⟩
      | rfl
  refine pl_take (i := 8) 11 rfl rfl rfl (by kernel_rfl) (by kernel_rfl) (by kernel_rfl) (by simp [Act.put]) hS.out ?_
  apply Exists.intro
  refine And.intro (fun w' hS' => ?_) ?_
  · have hc0 := hS'.cell 0 _ rfl
    have hc1 := hS'.cell 1 _ rfl
    have hc2 := hS'.cell 2 _ rfl
    clear hS'
    go_wp2
    first
      | exact ⟨trivial, rfl⟩
      | rfl
  try rw [hd8]
  refine pl_take (i := 9) 12 rfl rfl rfl (by kernel_rfl) (by kernel_rfl) (by kernel_rfl) (by simp [Act.put]) hS.out ?_
  apply Exists.intro
  refine And.intro (fun w' hS' => ?_) ?_
  · have hc0 := hS'.cell 0 _ rfl
    have hc1 := hS'.cell 1 _ rfl
    have hc2 := hS'.cell 2 _ rfl
    clear hS'
    go_wp2
    first
      | exact ⟨trivial, rfl⟩
      | rfl
  refine pl_take (i := 10) 13 rfl rfl rfl (by kernel_rfl) (by kernel_rfl) (by kernel_rfl) (by simp [Act.put]) hS.out ?_
  apply Exists.intro
  refine And.intro (fun w' hS' => ?_) ?_
  · have hc0 := hS'.cell 0 _ rfl
    have hc1 := hS'.cell 1 _ rfl
    have hc2 := hS'.cell 2 _ rfl
    clear hS'
    go_wp2
    first
      | exact ⟨trivial, rfl⟩
      | rfl
  refine pl_take (i := 11) 14 rfl rfl rfl (by kernel_rfl) (by kernel_rfl) (by kernel_rfl) (by simp [Act.put]) hS.out ?_
  apply Exists.intro
  refine And.intro (fun w' hS' => ?_) ?_
  · have hc0 := hS'.cell 0 _ rfl
    have hc1 := hS'.cell 1 _ rfl
    have hc2 := hS'.cell 2 _ rfl
    clear hS'
    go_wp2
    first
      | exact ⟨trivial, rfl⟩
      | rfl
  refine pl_take (i := 12) 15 rfl rfl rfl (by kernel_rfl) (by kernel_rfl) (by kernel_rfl) (by simp [Act.put]) hS.out ?_
  apply Exists.intro
  refine And.intro (fun w' hS' => ?_) ?_
  · have hc0 := hS'.cell 0 _ rfl
    have hc1 := hS'.cell 1 _ rfl
    have hc2 := hS'.cell 2 _ rfl
    clear hS'
    go_wp2
    first
      | exact ⟨trivial, rfl⟩
      | rfl
  refine pl_take (i := 13) 16 rfl rfl rfl (by kernel_rfl) (by kernel_rfl) (by kernel_rfl) (by simp [Act.put]) hS.out ?_
  apply Exists.intro
  refine And.intro (fun w' hS' => ?_) ?_
  · have hc0 := hS'.cell 0 _ rfl
    have hc1 := hS'.cell 1 _ rfl
    have hc2 := hS'.cell 2 _ rfl
    clear hS'
    go_wp2
    first
      | exact ⟨trivial, rfl⟩
      | rfl
  try rw [hd13]
  refine pl_take (i := 14) 17 rfl rfl rfl (by kernel_rfl) (by kernel_rfl) (by kernel_rfl) (by simp [Act.put]) hS.out ?_
  apply Exists.intro
  refine And.intro (fun w' hS' => ?_) ?_
  · have hc0 := hS'.cell 0 _ rfl
    have hc1 := hS'.cell 1 _ rfl
    have hc2 := hS'.cell 2 _ rfl
    clear hS'
    go_wp2
    first
      | exact ⟨trivial, rfl⟩
      | rfl
  refine pl_take (i := 15) 18 rfl rfl rfl (by kernel_rfl) (by kernel_rfl) (by kernel_rfl) (by simp [Act.put]) hS.out ?_
  apply Exists.intro
  refine And.intro (fun w' hS' => ?_) ?_
  · have hc0 := hS'.cell 0 _ rfl
    have hc1 := hS'.cell 1 _ rfl
    have hc2 := hS'.cell 2 _ rfl
    clear hS'
    go_wp2
    first
      | exact ⟨trivial, rfl⟩
      | rfl
  refine pl_take (i := 16) 19 rfl rfl rfl (by kernel_rfl) (by kernel_rfl) (by kernel_rfl) (by simp [Act.put]) hS.out ?_
  apply Exists.intro
  refine And.intro (fun w' hS' => ?_) ?_
  · have hc0 := hS'.cell 0 _ rfl
    have hc1 := hS'.cell 1 _ rfl
    have hc2 := hS'.cell 2 _ rfl
    clear hS'
    go_wp2
    first
      | exact ⟨trivial, rfl⟩
      | rfl
  refine pl_take (i := 17) 20 rfl rfl rfl (by kernel_rfl) (by kernel_rfl) (by kernel_rfl) (by simp [Act.put]) hS.out ?_
  apply Exists.intro
  refine And.intro (fun w' hS' => ?_) ?_
  · have hc0 := hS'.cell 0 _ rfl
    have hc1 := hS'.cell 1 _ rfl
    have hc2 := hS'.cell 2 _ rfl
    clear hS'
    go_wp2
    first
      | exact ⟨trivial, rfl⟩
      | rfl
  refine pl_take (i := 18) 21 rfl rfl rfl (by kernel_rfl) (by kernel_rfl) (by kernel_rfl) (by simp [Act.put]) hS.out ?_
  apply Exists.intro
  refine And.intro (fun w' hS' => ?_) ?_
  · have hc0 := hS'.cell 0 _ rfl
    have hc1 := hS'.cell 1 _ rfl
    have hc2 := hS'.cell 2 _ rfl
    clear hS'
    go_wp2
    first
      | exact ⟨trivial, rfl⟩
      | rfl
  refine pl_take (i := 19) 22 rfl rfl rfl (by kernel_rfl) (by kernel_rfl) (by kernel_rfl) (by simp [Act.put]) hS.out ?_
  apply Exists.intro
  refine And.intro (fun w' hS' => ?_) ?_
  · have hc0 := hS'.cell 0 _ rfl
    have hc1 := hS'.cell 1 _ rfl
    have hc2 := hS'.cell 2 _ rfl
    clear hS'
    go_wp2
    first
      | exact ⟨trivial, rfl⟩
      | rfl
  refine pl_take (i := 20) 23 rfl rfl rfl (by kernel_rfl) (by kernel_rfl) (by kernel_rfl) (by simp [Act.put]) hS.out ?_
  apply Exists.intro
  refine And.intro (fun w' hS' => ?_) ?_
  · have hc0 := hS'.cell 0 _ rfl
    have hc1 := hS'.cell 1 _ rfl
    have hc2 := hS'.cell 2 _ rfl
    clear hS'
    go_wp2
    first
      | exact ⟨trivial, rfl⟩
      | rfl
  refine pl_take (i := 21) 24 rfl rfl rfl (by kernel_rfl) (by kernel_rfl) (by kernel_rfl) (by simp [Act.put]) hS.out ?_
  apply Exists.intro
  refine And.intro (fun w' hS' => ?_) ?_
  · have hc0 := hS'.cell 0 _ rfl
    have hc1 := hS'.cell 1 _ rfl
    have hc2 := hS'.cell 2 _ rfl
    clear hS'
    go_wp2
    first
      | exact ⟨trivial, rfl⟩
      | rfl
  refine pl_take (i := 22) 25 rfl rfl rfl (by kernel_rfl) (by kernel_rfl) (by kernel_rfl) (by simp [Act.put]) hS.out ?_
  apply Exists.intro
  refine And.intro (fun w' hS' => ?_) ?_
  · have hc0 := hS'.cell 0 _ rfl
    have hc1 := hS'.cell 1 _ rfl
    have hc2 := hS'.cell 2 _ rfl
    clear hS'
    go_wp2
    first
      | exact ⟨trivial, rfl⟩
      | rfl
  refine pl_heavy (i := 23) rfl (by kernel_rfl) ?_
  go_wp2_with fail
  refine (CS.out _).mono ?_
  rintro e w3 ⟨rfl, rfl⟩
  go_wp2
  refine And.intro hS.out ?_
  refine pl_take (i := 24) 27 rfl rfl rfl (by kernel_rfl) (by kernel_rfl) (by kernel_rfl) (by simp [Act.put]) hS.out ?_
  apply Exists.intro
  refine And.intro (fun w' hS' => ?_) ?_
  · have hc0 := hS'.cell 0 _ rfl
    have hc1 := hS'.cell 1 _ rfl
    have hc2 := hS'.cell 2 _ rfl
    clear hS'
    go_wp2
    first
      | exact ⟨trivial, rfl⟩
      | rfl
  refine pl_take (i := 25) 28 rfl rfl rfl (by kernel_rfl) (by kernel_rfl) (by kernel_rfl) (by simp [Act.put]) hS.out ?_
  apply Exists.intro
  refine And.intro (fun w' hS' => ?_) ?_
  · have hc0 := hS'.cell 0 _ rfl
    have hc1 := hS'.cell 1 _ rfl
    have hc2 := hS'.cell 2 _ rfl
    clear hS'
    go_wp2
    first
      | exact ⟨trivial, rfl⟩
      | rfl
  refine pl_take (i := 26) 2 rfl rfl rfl (by kernel_rfl) (by kernel_rfl) (by kernel_rfl) (by simp [Act.put]) hS.out ?_
  apply Exists.intro
  refine And.intro (fun w' hS' => ?_) ?_
  · have hc0 := hS'.cell 0 _ rfl
    have hc1 := hS'.cell 1 _ rfl
    have hc2 := hS'.cell 2 _ rfl
    clear hS'
    go_wp2
    first
      | exact ⟨trivial, rfl⟩
      | rfl
  refine pl_done (by kernel_rfl) ?_
  go_wp2
  go_ret
  exact ⟨by rw [← HR.out]; rfl, B1.out⟩

theorem rmay_any (w : World) (n c : Int) (v : Value) (hs : List Bs) (h : Hs w v hs) :
    Calls Try.prog 58 #[.agg #[.int .i64 n, .int .i64 c, v]] w fun e w' => e = .returned (.bool (mayB n c hs)) ∧ Below w.heap.size w w' := by
  obtain ⟨a0, c0, rfl⟩ := h.slice
  by_cases h1 : n < 0
  · rw [show mayB n c hs = false by unfold mayB okPl; simp; omega]
    exact rmay_a w n c a0 _ c0 h1
  by_cases h2 : c ≤ n
  · rw [show mayB n c hs = false by unfold mayB okPl; simp; omega]
    exact rmay_b w n c a0 _ c0 h1 h2
  by_cases h3 : 1048576 < c
  · rw [show mayB n c hs = false by unfold mayB okPl; simp; omega]
    exact rmay_c w n c a0 _ c0 h1 h2 h3
  obtain ⟨a, rfl⟩ := Int.eq_ofNat_of_zero_le (show 0 ≤ n by omega)
  obtain ⟨b, rfl⟩ := Int.eq_ofNat_of_zero_le (show 0 ≤ c by omega)
  have h4 := rmay_d w a b a0 hs.length c0 (by omega) (by omega)
  rw [show mayB (a : Int) (b : Int) hs = (hs.length == sizeM 20 a b) by
    unfold mayB okPl
    simp only [Int.toNat_natCast]
    rw [show decide ((0 : Int) ≤ (a : Int)) = true by simp, show decide ((a : Int) < (b : Int)) = true by simp; omega, show decide ((b : Int) ≤ 1048576) = true by simp; omega]
    rfl]
  exact h4

end Go.Proofs.Ytbabjepblakboaa

/- Merkle: what a path comes to, whether it checks, by the reference: the walks. -/
namespace Go.Proofs.Ytbabjepblakboaa
set_option linter.unusedVariables false
set_option linter.unusedSimpArgs false
open Go.RowKit Go.Lib

set_option maxRecDepth 100000 in
set_option maxHeartbeats 2000000 in
theorem rleadP_any (w : World) (x : Bs) (n c : Nat) (v : Value) (hs : List Bs) (hx : x.length = 32) (h : Hs w v hs) (hn : n < c) (hc : c ≤ 1048576) (hl : hs.length = sizeM 20 n c) :
    Calls Try.prog 59 #[.agg (bvs x).toArray, .agg #[.int .i64 (n : Int), .int .i64 (c : Int), v]] w fun e w' => e = .returned (.agg (bvs (leadB n c x hs)).toArray) ∧ Below w.heap.size w w' := by
  obtain ⟨a0, c0, rfl⟩ := h.slice
  have CL := fun w0 h0 => rlead_any 20 (by omega) w0 x n c (.slice a0 hs.length c0) hs hx h0 hn (by omega) hl
  obtain ⟨Y, hY⟩ : ∃ Y, Y = leadM knotB [] 20 n c (leafB x) hs := ⟨_, rfl⟩
  have hYl : Hid (Y.length = 32) := Lib.hid (by rw [hY]; exact leadM_h32 _ _ _ _ _ (leafB_length x))
  obtain ⟨Z, hZ⟩ : ∃ Z, Z = leadB n c x hs := ⟨_, rfl⟩
  have hz : Hid (Z = topB c Y) := Lib.hid (by rw [hZ, leadB, hY])
  have hZl : Hid (Z.length = 32) := Lib.hid (by rw [hZ]; exact topB_length _ _)
  rw [← hY] at CL
  rw [← hZ]
  obtain ⟨N, hN⟩ : ∃ N, N = hs.length := ⟨_, rfl⟩
  rw [← hN] at h CL ⊢
  replace CL := Lib.hid CL
  have H := Lib.hid h
  have HX := Lib.hid (And.intro hx hc)
  clear h hn hc hl hY hZ hN hx
  go_enter Try.func59, Try.ntmps59
  go_wp2_with (with_reducible refine stopAt 6 ?_)
  refine Stop.go ?_
  obtain ⟨w1, h1, k1, b1, s1⟩ := alloc_cb w 24 (bvs x)
  obtain ⟨w2, h2, k2, b2, s2⟩ := alloc_cb w1 92 [.int .i64 n, .int .i64 c, .slice a0 N c0]
  obtain ⟨w3, h3, k3, b3, s3⟩ := alloc_cb w2 24 (bvs (List.replicate 32 0))
  change wpList _ _ _ _ _ (((w.alloc (.cells (bvs x).toArray 24)).alloc (.cells [.int .i64 n, .int .i64 c, .slice a0 N c0].toArray 92)).alloc (.cells (bvs (List.replicate 32 0)).toArray 24))
  rw [← h1, ← h2, ← h3]
  rw [s1] at s2 k2
  rw [s2] at k3
  have I3 := Lib.hid ((k1.fresh b2).fresh b3)
  have P3 := Lib.hid (k2.fresh b3)
  have K3 := Lib.hid k3
  have B3 := Lib.hid ((b1.tr b2).tr b3)
  clear h1 h2 h3 k1 k2 k3 b1 b2 b3 s1 s2 s3
  refine wpList_load_agg rfl 24 (.tmp 2) rfl (⟨w.heap.size, 0, none⟩) rfl (bvs x) _ ((At.block I3.out).load) Try.underlying24 rfl (by rw [bvs_length, HX.out.1]; exact infoHash) ?_
  have hc0 := P3.out.cell 0 _ rfl
  have hc1 := P3.out.cell 1 _ rfl
  have hc2 := P3.out.cell 2 _ rfl
  go_wp2_with fail
  refine (CL.out w3 (H.out.fresh B3.out)).mono ?_
  rintro e w4 ⟨rfl, b4⟩
  clear hc0 hc1 hc2
  have P4 := Lib.hid (P3.out.fresh b4)
  have K4 := Lib.hid (K3.out.fresh b4)
  have B4 := Lib.hid (B3.out.tr b4)
  clear b4 I3 P3 K3 B3
  go_wp2_with (with_reducible refine stopStore 24 ?_)
  refine Stop.go ?_
  refine wpList_store_var rfl 24 (.tmp 5) (.tmp 13) rfl w4.heap.size _ rfl _ (bvs Y) rfl (heap_alloc_new w4 _) (by simp [hYl.out]) (bvs_one _) (by rw [bvs_length, hYl.out]; exact infoHash) ?_
  intro w5 kw5 ow5
  have bw5 : Below w4.heap.size w4 w5 := Below.only ((Below.refl _ w4).alloc (Nat.le_refl _) _) ow5 (Nat.le_refl _)
  replace kw5 : CB w5 24 w4.heap.size (bvs Y) := kw5
  clear ow5
  have P5 := Lib.hid (P4.out.fresh bw5)
  have K5 := Lib.hid (K4.out.fresh bw5)
  have B5 := Lib.hid (B4.out.tr bw5)
  have R5 := Lib.hid (CB.rd32 kw5 hYl.out)
  clear bw5 kw5 P4 K4 B4
  go_wp2_with fail
  have hS : Hid (CB w5.drew 92 (w.heap.size + 1) [.int .i64 n, .int .i64 c, .slice a0 N c0]) := Lib.hid P5.out
  refine pl_start 5 rfl (fun w' => CB w' 92 (w.heap.size + 1) [.int .i64 n, .int .i64 c, .slice a0 N c0]) (by kernel_rfl) ?_
  obtain ⟨w6, hw6⟩ : ∃ w6, w6 = w5.drew := ⟨_, rfl⟩
  have K6 : Hid (CB w6 24 (w.heap.size + 1 + 1) (bvs (List.replicate 32 0))) := Lib.hid (by rw [hw6]; exact K5.out)
  have B6 : Hid (Below w.heap.size w w6) := Lib.hid (by rw [hw6]; exact B5.out.drew)
  have R6 : Hid (Rd w6 1 (.slice (some ⟨w4.heap.size, 0, none⟩) 32 32) Y.length (bvs Y)) := Lib.hid (by rw [hw6]; exact R5.out.fresh (Below.refl _ _).drew)
  rw [← hw6] at hS ⊢
  clear hw6 P5 K5 B5 R5
  refine pl_take (i := 0) 14 rfl rfl rfl (by kernel_rfl) (by kernel_rfl) (by kernel_rfl) (by simp [Act.put]) hS.out ?_
  apply Exists.intro
  refine And.intro (fun w' hS' => ?_) ?_
  · go_wp2
    exact ⟨trivial, rfl⟩
  refine pl_take (i := 1) 15 rfl rfl rfl (by kernel_rfl) (by kernel_rfl) (by kernel_rfl) (by simp [Act.put]) hS.out ?_
  apply Exists.intro
  refine And.intro (fun w' hS' => ?_) ?_
  · have hc1 := hS'.cell 1 _ rfl
    clear hS'
    go_wp2
    exact ⟨trivial, rfl⟩
  refine pl_take (i := 2) 16 rfl rfl rfl (by kernel_rfl) (by kernel_rfl) (by kernel_rfl) (by simp [Act.put]) hS.out ?_
  apply Exists.intro
  refine And.intro (fun w' hS' => ?_) ?_
  · go_wp2
    exact ⟨trivial, rfl⟩
  refine pl_heavy (i := 3) rfl (by kernel_rfl) ?_
  go_wp2_with fail
  refine (rtop_any w6 c _ Y (by have := HX.out.2; omega) R6.out (by rw [hYl.out]; decide)).mono ?_
  rintro e w7 ⟨rfl, b7⟩
  rw [← hz.out]
  have S7 := Lib.hid (hS.out.fresh b7)
  have K7 := Lib.hid (K6.out.fresh b7)
  have B7 := Lib.hid (B6.out.tr b7)
  clear b7 hS K6 B6 R6
  go_wp2
  refine And.intro S7.out ?_
  refine pl_heavy (i := 4) rfl (by kernel_rfl) ?_
  refine wpList_store_var rfl 24 (.tmp 4) (.tmp 17) rfl (w.heap.size + 1 + 1) _ rfl _ (bvs Z) rfl K7.out (by simp [hZl.out]) (bvs_one _) (by rw [bvs_length, hZl.out]; exact infoHash) ?_
  intro wf kf of
  have BF : Hid (Below w.heap.size w wf) := Below.only B7.out of (by omega)
  have KF := Lib.hid kf
  clear kf
  have SF : Hid (CB wf 92 (w.heap.size + 1) [.int .i64 n, .int .i64 c, .slice a0 N c0]) := Lib.hid (S7.out.only of (by omega))
  clear of
  go_wp2
  refine And.intro SF.out ?_
  refine pl_done (by kernel_rfl) ?_
  go_wp2
  exact bodyPost_ret (results_cell1 rfl _ _ (w.heap.size + 1 + 1) _ _ _ _ rfl KF.out Try.underlying24 rfl (by simp [hZl.out, infoHash])) rfl ⟨rfl, BF.out⟩

set_option maxRecDepth 100000 in
set_option maxHeartbeats 2000000 in
theorem rcheck_any (w : World) (r x : Bs) (n c : Int) (v : Value) (hs : List Bs) (hr : r.length = 32) (hx : x.length = 32) (h : Hs w v hs) :
    Calls Try.prog 57 #[.agg (bvs r).toArray, .agg (bvs x).toArray, .agg #[.int .i64 n, .int .i64 c, v]] w fun e w' => e = .returned (.int .i64 (checkE r x n c hs)) ∧ Below w.heap.size w w' := by
  obtain ⟨a0, c0, rfl⟩ := h.slice
  have CM := fun w0 h0 => rmay_any w0 n c (.slice a0 hs.length c0) hs h0
  obtain ⟨N, hN⟩ : ∃ N, N = hs.length := ⟨_, rfl⟩
  obtain ⟨C, hC⟩ : ∃ C, C = checkE r x n c hs := ⟨_, rfl⟩
  rw [← hC]
  cases hm : mayB n c hs with
  | false =>
    rw [hm] at CM
    rw [← hN] at h CM ⊢
    have hc : Hid (C = 21) := Lib.hid (by rw [hC, checkE, hm]; rfl)
    replace CM := Lib.hid CM
    have H := Lib.hid h
    clear h hN hC hm
    go_enter Try.func57, Try.ntmps57
    go_wp2_with fail
    obtain ⟨w1, h1, k1, b1, s1⟩ := alloc_cb w 24 (bvs r)
    obtain ⟨w2, h2, k2, b2, s2⟩ := alloc_cb w1 24 (bvs x)
    obtain ⟨w3, h3, k3, b3, s3⟩ := alloc_cb w2 92 [.int .i64 n, .int .i64 c, .slice a0 N c0]
    change Code.wp _ _ _ _ (((w.alloc (.cells (bvs r).toArray 24)).alloc (.cells (bvs x).toArray 24)).alloc (.cells [.int .i64 n, .int .i64 c, .slice a0 N c0].toArray 92))
    rw [← h1, ← h2, ← h3]
    rw [s1] at s2 k2
    rw [s2] at s3 k3
    have hS : Hid (CB w3.drew 92 (w.heap.size + 1 + 1) [.int .i64 n, .int .i64 c, .slice a0 N c0]) := Lib.hid k3
    have B3 := Lib.hid ((b1.tr b2).tr b3).drew
    clear h1 h2 h3 k1 k2 k3 b1 b2 b3 s1 s2 s3
    refine pl_start 10 rfl (fun w' => CB w' 92 (w.heap.size + 1 + 1) [.int .i64 n, .int .i64 c, .slice a0 N c0]) (by kernel_rfl) ?_
    obtain ⟨w4, hw4⟩ : ∃ w4, w4 = w3.drew := ⟨_, rfl⟩
    rw [← hw4] at hS B3 ⊢
    clear hw4
    refine pl_take (i := 0) 7 rfl rfl rfl (by kernel_rfl) (by kernel_rfl) (by kernel_rfl) (by simp [Act.put]) hS.out ?_
    apply Exists.intro
    refine And.intro (fun w' hS' => ?_) ?_
    · refine wpList_load_agg rfl 92 (.tmp 5) rfl ⟨w.heap.size + 1 + 1, 0, none⟩ rfl [.int .i64 n, .int .i64 c, .slice a0 N c0] _ (At.block hS').load Try.underlying92 rfl (by exact infoPath) ?_
      clear hS'
      go_wp2
      exact ⟨trivial, rfl⟩
    refine pl_heavy (i := 1) rfl (by kernel_rfl) ?_
    go_wp2_with fail
    refine (CM.out w4 (H.out.fresh B3.out)).mono ?_
    rintro e w5 ⟨rfl, b5⟩
    have S5 := Lib.hid (hS.out.fresh b5)
    have B5 := Lib.hid (B3.out.tr b5)
    clear b5 hS B3
    go_wp2
    refine And.intro S5.out ?_
    refine pl_take (i := 2) 9 rfl rfl rfl (by kernel_rfl) (by kernel_rfl) (by kernel_rfl) (by simp [Act.put]) S5.out ?_
    apply Exists.intro
    refine And.intro (fun w' hS' => ?_) ?_
    · go_wp2
      exact ⟨trivial, rfl⟩
    refine pl_take (i := 3) 10 rfl rfl rfl (by kernel_rfl) (by kernel_rfl) (by kernel_rfl) (by simp [Act.put]) S5.out ?_
    apply Exists.intro
    refine And.intro (fun w' hS' => ?_) ?_
    · go_wp2
      exact ⟨trivial, rfl⟩
    refine pl_skip (i := 4) rfl (by kernel_rfl) (by kernel_rfl) (by kernel_rfl) (by kernel_rfl) S5.out ?_
    apply Exists.intro
    refine And.intro (by simp [Act.put, go_sem]; rfl) ?_
    refine pl_skip (i := 5) rfl (by kernel_rfl) (by kernel_rfl) (by kernel_rfl) (by kernel_rfl) S5.out ?_
    apply Exists.intro
    refine And.intro (by simp [Act.put, go_sem]; rfl) ?_
    refine pl_skip (i := 6) rfl (by kernel_rfl) (by kernel_rfl) (by kernel_rfl) (by kernel_rfl) S5.out ?_
    apply Exists.intro
    refine And.intro (by simp [Act.put, go_sem]; rfl) ?_
    refine pl_skip (i := 7) rfl (by kernel_rfl) (by kernel_rfl) (by kernel_rfl) (by kernel_rfl) S5.out ?_
    apply Exists.intro
    refine And.intro (by simp [Act.put, go_sem]; rfl) ?_
    refine pl_skip (i := 8) rfl (by kernel_rfl) (by kernel_rfl) (by kernel_rfl) (by kernel_rfl) S5.out ?_
    apply Exists.intro
    refine And.intro (by simp [Act.put, go_sem]; rfl) ?_
    refine pl_take (i := 9) 16 rfl rfl rfl (by kernel_rfl) (by kernel_rfl) (by kernel_rfl) (by simp [Act.put]) S5.out ?_
    apply Exists.intro
    refine And.intro (fun w' hS' => ?_) ?_
    · clear hS'
      go_wp2
      first
        | exact ⟨trivial, rfl⟩
        | rfl
    refine pl_done (by kernel_rfl) ?_
    go_wp2
    go_ret
    exact ⟨by rw [hc.out]; rfl, B5.out⟩
  | true =>
    obtain ⟨a, b, rfl, rfl, h1, h2, h3⟩ := mayB_ok hm
    rw [hm] at CM
    have CL := fun w0 h0 => rleadP_any w0 x a b (.slice a0 hs.length c0) hs hx h0 h1 h2 h3
    rw [← hN] at h CM CL ⊢
    obtain ⟨L, hL⟩ : ∃ L, L = leadB a b x hs := ⟨_, rfl⟩
    rw [← hL] at CL
    have hLl : L.length = 32 := by rw [hL]; exact topB_length _ _
    have hc : Hid (C = if L != r then 21 else 0) := Lib.hid (by
      rw [hC, checkE, hm, hL]
      simp only [Bool.true_and, Int.toNat_natCast]
      cases hb : leadB a b x hs == r <;> simp [bne, hb])
    replace CM := Lib.hid CM
    replace CL := Lib.hid CL
    have H := Lib.hid h
    have HL := Lib.hid (And.intro hLl (And.intro hr hx))
    clear h hN hC hm h1 h2 h3 hL hLl hr hx
    go_enter Try.func57, Try.ntmps57
    go_wp2_with fail
    obtain ⟨w1, h1, k1, b1, s1⟩ := alloc_cb w 24 (bvs r)
    obtain ⟨w2, h2, k2, b2, s2⟩ := alloc_cb w1 24 (bvs x)
    obtain ⟨w3, h3, k3, b3, s3⟩ := alloc_cb w2 92 [.int .i64 a, .int .i64 b, .slice a0 N c0]
    change Code.wp _ _ _ _ (((w.alloc (.cells (bvs r).toArray 24)).alloc (.cells (bvs x).toArray 24)).alloc (.cells [.int .i64 a, .int .i64 b, .slice a0 N c0].toArray 92))
    rw [← h1, ← h2, ← h3]
    rw [s1] at s2 k2
    rw [s2] at s3 k3
    have hS : Hid (CB w3.drew 24 w.heap.size (bvs r) ∧ CB w3.drew 24 (w.heap.size + 1) (bvs x) ∧ CB w3.drew 92 (w.heap.size + 1 + 1) [.int .i64 a, .int .i64 b, .slice a0 N c0]) := Lib.hid ⟨(k1.fresh b2).fresh b3.drew, k2.fresh b3.drew, k3⟩
    have B3 := Lib.hid ((b1.tr b2).tr b3).drew
    clear h1 h2 h3 k1 k2 k3 b1 b2 b3 s1 s2 s3
    refine pl_start 10 rfl (fun w' => CB w' 24 w.heap.size (bvs r) ∧ CB w' 24 (w.heap.size + 1) (bvs x) ∧ CB w' 92 (w.heap.size + 1 + 1) [.int .i64 a, .int .i64 b, .slice a0 N c0]) (by kernel_rfl) ?_
    obtain ⟨w4, hw4⟩ : ∃ w4, w4 = w3.drew := ⟨_, rfl⟩
    rw [← hw4] at hS B3 ⊢
    clear hw4
    refine pl_take (i := 0) 7 rfl rfl rfl (by kernel_rfl) (by kernel_rfl) (by kernel_rfl) (by simp [Act.put]) hS.out ?_
    apply Exists.intro
    refine And.intro (fun w' hS' => ?_) ?_
    · refine wpList_load_agg rfl 92 (.tmp 5) rfl ⟨w.heap.size + 1 + 1, 0, none⟩ rfl [.int .i64 a, .int .i64 b, .slice a0 N c0] _ (At.block hS'.2.2).load Try.underlying92 rfl (by exact infoPath) ?_
      clear hS'
      go_wp2
      exact ⟨trivial, rfl⟩
    refine pl_heavy (i := 1) rfl (by kernel_rfl) ?_
    go_wp2_with fail
    refine (CM.out w4 (H.out.fresh B3.out)).mono ?_
    rintro e w5 ⟨rfl, b5⟩
    have S5 := Lib.hid (And.intro (hS.out.1.fresh b5) (And.intro (hS.out.2.1.fresh b5) (hS.out.2.2.fresh b5)))
    have B5 := Lib.hid (B3.out.tr b5)
    clear b5 hS B3
    go_wp2
    refine And.intro S5.out ?_
    refine pl_take (i := 2) 9 rfl rfl rfl (by kernel_rfl) (by kernel_rfl) (by kernel_rfl) (by simp [Act.put]) S5.out ?_
    apply Exists.intro
    refine And.intro (fun w' hS' => ?_) ?_
    · go_wp2
      exact ⟨trivial, rfl⟩
    refine pl_take (i := 3) 10 rfl rfl rfl (by kernel_rfl) (by kernel_rfl) (by kernel_rfl) (by simp [Act.put]) S5.out ?_
    apply Exists.intro
    refine And.intro (fun w' hS' => ?_) ?_
    · go_wp2
      exact ⟨trivial, rfl⟩
    refine pl_take (i := 4) 11 rfl rfl rfl (by kernel_rfl) (by kernel_rfl) (by kernel_rfl) (by simp [Act.put]) S5.out ?_
    apply Exists.intro
    refine And.intro (fun w' hS' => ?_) ?_
    · refine wpList_unguard' rfl ?_
      refine wpList_load_agg rfl 24 (.tmp 4) rfl (⟨w.heap.size + 1, 0, none⟩) rfl (bvs x) _ ((At.block hS'.2.1).load) Try.underlying24 rfl (by rw [bvs_length, HL.out.2.2]; exact infoHash) ?_
      clear hS'
      go_wp2
      exact ⟨trivial, rfl⟩
    refine pl_take (i := 5) 12 rfl rfl rfl (by kernel_rfl) (by kernel_rfl) (by kernel_rfl) (by simp [Act.put]) S5.out ?_
    apply Exists.intro
    refine And.intro (fun w' hS' => ?_) ?_
    · refine wpList_unguard' rfl ?_
      refine wpList_load_agg rfl 92 (.tmp 5) rfl ⟨w.heap.size + 1 + 1, 0, none⟩ rfl [.int .i64 a, .int .i64 b, .slice a0 N c0] _ (At.block hS'.2.2).load Try.underlying92 rfl (by exact infoPath) ?_
      clear hS'
      go_wp2
      exact ⟨trivial, rfl⟩
    refine pl_take (i := 7) 14 rfl rfl rfl (by kernel_rfl) (by kernel_rfl) (by kernel_rfl) (by simp [Act.put]) S5.out ?_
    apply Exists.intro
    refine And.intro (fun w' hS' => ?_) ?_
    · refine wpList_unguard' rfl ?_
      refine wpList_load_agg rfl 24 (.tmp 3) rfl (⟨w.heap.size, 0, none⟩) rfl (bvs r) _ ((At.block hS'.1).load) Try.underlying24 rfl (by rw [bvs_length, HL.out.2.1]; exact infoHash) ?_
      clear hS'
      go_wp2
      exact ⟨trivial, rfl⟩
    refine pl_heavy (i := 6) rfl (by kernel_rfl) ?_
    go_wp2_with fail
    refine (CL.out w5 (H.out.fresh B5.out)).mono ?_
    rintro e w6 ⟨rfl, b6⟩
    have S6 := Lib.hid (And.intro (S5.out.1.fresh b6) (And.intro (S5.out.2.1.fresh b6) (S5.out.2.2.fresh b6)))
    have B6 := Lib.hid (B5.out.tr b6)
    clear b6 S5 B5
    go_wp2
    refine And.intro S6.out ?_
    refine pl_take (i := 8) 15 rfl rfl rfl (by kernel_rfl) (by kernel_rfl) (by kernel_rfl) (by simp [Act.put]) S6.out ?_
    apply Exists.intro
    refine And.intro (fun w' hS' => ?_) ?_
    · refine wpList_unguard' rfl ?_
      refine wpList_bin rfl .neq 24 24 (.tmp 13) (.tmp 14) rfl (.bool (L != r)) (eqGuard_agg _ _ _ _ _ _ _ (by kernel_rfl)) (hash_ne w' L r HL.out.1 HL.out.2.1) ?_
      clear hS'
      go_wp2
      exact ⟨trivial, rfl⟩
    refine pl_take (i := 9) 16 rfl rfl rfl (by kernel_rfl) (by kernel_rfl) (by kernel_rfl) (by simp [Act.put]) S6.out ?_
    apply Exists.intro
    refine And.intro (fun w' hS' => ?_) ?_
    · go_wp2
      exact ⟨trivial, rfl⟩
    refine pl_done (by kernel_rfl) ?_
    cases hb : (L != r)
    · rw [hb] at hc
      go_wp2
      go_ret
      exact ⟨by rw [hc.out]; rfl, B6.out⟩
    · rw [hb] at hc
      go_wp2
      go_ret
      exact ⟨by rw [hc.out]; rfl, B6.out⟩

end Go.Proofs.Ytbabjepblakboaa

/- Merkle: lists of hashes compared; errors' numbers: the walks. -/
namespace Go.Proofs.Ytbabjepblakboaa
set_option linter.unusedVariables false
set_option linter.unusedSimpArgs false
open Go.RowKit Go.Lib

theorem ynum_any (w : World) (n : Int) :
    Calls Try.prog 51 #[.int .i64 n] w fun e w' => e = .returned (.int .i64 n) ∧ w' = w := by
  go_enter Try.func51, Try.ntmps51
  go_wp2
  go_ret
  exact ⟨rfl, rfl⟩

theorem take_next {l m : List Bs} {k : Nat} {x y : Bs} (hx : l[k]? = some x) (hy : m[k]? = some y) (h : l.take k = m.take k) (hxy : x = y) : l.take (k + 1) = m.take (k + 1) := by
  rw [List.take_add_one, List.take_add_one, hx, hy, h, hxy]

set_option maxRecDepth 100000 in
set_option maxHeartbeats 1000000 in
theorem ysame_any (w : World) (v u : Value) (l m : List Bs) (hv : Hs w v l) (hu : Hs w u m) :
    Calls Try.prog 53 #[v, u] w fun e w' => e = .returned (.bool (decide (l = m))) ∧ Below w.heap.size w w' := by
  obtain ⟨a0, c0, rfl⟩ := hv.slice
  obtain ⟨a1, c1, rfl⟩ := hu.slice
  obtain ⟨N, hN⟩ : ∃ N, N = l.length := ⟨_, rfl⟩
  obtain ⟨M, hM⟩ : ∃ M, M = m.length := ⟨_, rfl⟩
  obtain ⟨R, hR⟩ : ∃ R, R = decide (l = m) := ⟨_, rfl⟩
  rw [← hR]
  by_cases hNM : N = M
  · have HR := Lib.hid hR
    have HN := Lib.hid (And.intro hN hM)
    rw [← hN] at hv ⊢
    rw [← hM, ← hNM] at hu ⊢
    have HM := Lib.hid hNM
    have HV := Lib.hid hv
    have HU := Lib.hid hu
    have bN : (N : Int) ≤ maxLen := by
      have h1 : N ≤ maxLen := by
        have := hv.2.2
        rcases this with ⟨he, _⟩ | ⟨ad, c', he, h2, h3, _⟩
        · simp only [Value.slice.injEq] at he
          omega
        · simp only [Value.slice.injEq] at he
          omega
      omega
    have bN' : (N : Int) ≤ 9223372036854775807 := by unfold maxLen at bN; omega
    clear hR hN hM hNM hv hu bN
    go_enter Try.func53, Try.ntmps53
    go_wp2
    go_loopw [5] (fun v5 wr => Below w.heap.size w wr ∧ ∃ k : Nat, k ≤ N ∧ v5 = .int .i64 (k : Int) ∧ l.take k = m.take k)
      (fun v _ => N - (intOf v).toNat)
    case atStart => exact ⟨Below.refl _ _, 0, by omega, rfl, rfl⟩
    case round =>
      obtain ⟨hb, k, hk, rfl, ht⟩ := hrel
      have HB := Lib.hid hb
      have HT := Lib.hid ht
      clear hb ht
      by_cases hlt : k < N
      · obtain ⟨x, hx⟩ : ∃ x, l[k]? = some x := ⟨_, List.getElem?_eq_getElem (by rw [← HN.out.1]; exact hlt)⟩
        obtain ⟨y, hy⟩ : ∃ y, m[k]? = some y := ⟨_, List.getElem?_eq_getElem (by rw [← HN.out.2, ← HM.out]; exact hlt)⟩
        obtain ⟨ad, c, he⟩ := HV.out.isSome HN.out.1.symm (by omega)
        simp only [Value.slice.injEq, true_and] at he
        obtain ⟨rfl, rfl⟩ := he
        obtain ⟨bd, d, he⟩ := HU.out.isSome (n := N) (by rw [HM.out]; exact HN.out.2.symm) (by omega)
        simp only [Value.slice.injEq, true_and] at he
        obtain ⟨rfl, rfl⟩ := he
        have HX := Lib.hid (And.intro hx (And.intro hy (And.intro (HV.out.1.get hx) (HU.out.1.get hy))))
        have ik : (k : Int) < (N : Int) := by omega
        have HK := Lib.hid hlt
        have hS : Hid (Hs wr.drew (.slice (some ad) N c0) l ∧ Hs wr.drew (.slice (some bd) N c1) m) := Lib.hid ⟨HV.out.fresh HB.out.drew, HU.out.fresh HB.out.drew⟩
        clear hx hy hlt hk
        go_wp2_with fail
        refine pl_start 9 rfl (fun w' => Hs w' (.slice (some ad) N c0) l ∧ Hs w' (.slice (some bd) N c1) m) (by kernel_rfl) ?_
        refine pl_take (i := 0) 17 rfl rfl rfl (by kernel_rfl) (by kernel_rfl) (by kernel_rfl) (by simp [Act.put]) hS.out ?_
        apply Exists.intro
        refine And.intro (fun w' hS' => ?_) ?_
        · go_wp2
          exact ⟨trivial, rfl⟩
        refine pl_take (i := 1) 18 rfl rfl rfl (by kernel_rfl) (by kernel_rfl) (by kernel_rfl) (by simp [Act.put]) hS.out ?_
        apply Exists.intro
        refine And.intro (fun w' hS' => ?_) ?_
        · go_wp2
          exact ⟨trivial, rfl⟩
        refine pl_take (i := 2) 19 rfl rfl rfl (by kernel_rfl) (by kernel_rfl) (by kernel_rfl) (by simp [Act.put]) hS.out ?_
        apply Exists.intro
        refine And.intro (fun w' hS' => ?_) ?_
        · clear hS'
          go_wp2
          exact ⟨trivial, rfl⟩
        refine pl_take (i := 3) 20 rfl rfl rfl (by kernel_rfl) (by kernel_rfl) (by kernel_rfl) (by simp [Act.put]) hS.out ?_
        apply Exists.intro
        refine And.intro (fun w' hS' => ?_) ?_
        · refine wpList_load_agg rfl 24 (.tmp 19) rfl (ad.add (k * 32)) rfl (bvs x) _ (hS'.1.elem' HX.out.1) Try.underlying24 rfl (by rw [bvs_length, HX.out.2.2.1]; exact infoHash) ?_
          go_wp2
          exact ⟨trivial, rfl⟩
        refine pl_take (i := 4) 21 rfl rfl rfl (by kernel_rfl) (by kernel_rfl) (by kernel_rfl) (by simp [Act.put]) hS.out ?_
        apply Exists.intro
        refine And.intro (fun w' hS' => ?_) ?_
        · go_wp2
          exact ⟨trivial, rfl⟩
        refine pl_take (i := 5) 22 rfl rfl rfl (by kernel_rfl) (by kernel_rfl) (by kernel_rfl) (by simp [Act.put]) hS.out ?_
        apply Exists.intro
        refine And.intro (fun w' hS' => ?_) ?_
        · go_wp2
          exact ⟨trivial, rfl⟩
        refine pl_take (i := 6) 23 rfl rfl rfl (by kernel_rfl) (by kernel_rfl) (by kernel_rfl) (by simp [Act.put]) hS.out ?_
        apply Exists.intro
        refine And.intro (fun w' hS' => ?_) ?_
        · clear hS'
          go_wp2
          exact ⟨trivial, rfl⟩
        refine pl_take (i := 7) 24 rfl rfl rfl (by kernel_rfl) (by kernel_rfl) (by kernel_rfl) (by simp [Act.put]) hS.out ?_
        apply Exists.intro
        refine And.intro (fun w' hS' => ?_) ?_
        · refine wpList_load_agg rfl 24 (.tmp 23) rfl (bd.add (k * 32)) rfl (bvs y) _ (hS'.2.elem' HX.out.2.1) Try.underlying24 rfl (by rw [bvs_length, HX.out.2.2.2]; exact infoHash) ?_
          go_wp2
          exact ⟨trivial, rfl⟩
        refine pl_take (i := 8) 25 rfl rfl rfl (by kernel_rfl) (by kernel_rfl) (by kernel_rfl) (by simp [Act.put]) hS.out ?_
        apply Exists.intro
        refine And.intro (fun w' hS' => ?_) ?_
        · refine wpList_bin rfl .neq 24 24 (.tmp 20) (.tmp 24) rfl (.bool (x != y)) (eqGuard_agg _ _ _ _ _ _ _ (by kernel_rfl)) (hash_ne w' x y HX.out.2.2.1 HX.out.2.2.2) ?_
          clear hS'
          go_wp2
          exact ⟨trivial, rfl⟩
        refine pl_done (by kernel_rfl) ?_
        have B1 : Hid (Below w.heap.size w wr.drew) := HB.out.drew
        cases hxy : (x != y)
        · have e1 : x = y := by simpa [bne] using hxy
          have HT' := Lib.hid (take_next HX.out.1 HX.out.2.1 HT.out e1)
          clear hxy e1
          go_wp2
          go_roundw
          case rel => exact ⟨B1.out, k + 1, HK.out, by go_num, HT'.out⟩
          case measure => simp only [intOf]; have := HK.out; omega
        · have e1 : x ≠ y := by simpa [bne] using hxy
          have hf : Hid (R = false) := Lib.hid (by
            rw [HR.out, decide_eq_false_iff_not]
            intro e
            rw [e, HX.out.2.1] at HX
            have := HX.out.1
            simp at this
            exact e1 this.symm)
          clear hxy e1
          go_wp2
          go_ret
          exact ⟨by rw [hf.out]; rfl, B1.out⟩
      · have ik : ¬ ((k : Int) < (N : Int)) := by omega
        have hkN : k = N := by omega
        have ht' : Hid (R = true) := Lib.hid (by
          have h1 := HT.out
          rw [List.take_of_length_le (by have := HN.out.1; omega), List.take_of_length_le (by have := HN.out.2; have := HM.out; omega)] at h1
          rw [HR.out, decide_eq_true h1])
        clear hkN
        go_wp2
        go_ret
        exact ⟨by rw [ht'.out]; rfl, HB.out⟩
  · have hf : Hid (R = false) := Lib.hid (by
      rw [hR, decide_eq_false_iff_not]
      intro e
      rw [e] at hN
      omega)
    rw [← hN, ← hM]
    have i1 : ¬ ((N : Int) = (M : Int)) := by omega
    clear hv hu hR hN hM hNM
    go_enter Try.func53, Try.ntmps53
    go_wp2
    go_ret
    exact ⟨by rw [hf.out]; rfl, Below.refl _ _⟩

end Go.Proofs.Ytbabjepblakboaa
