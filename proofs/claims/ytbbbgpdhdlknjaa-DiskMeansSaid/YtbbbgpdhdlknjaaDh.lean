/- Disks: Cut: the walk. -/
import Derived.Test.YtbbbgpdhdlknjaaDg
namespace Go.Proofs.Ytbbbgpdhdlknjaa
set_option linter.unusedVariables false
set_option linter.unusedSimpArgs false
open Go.RowKit Go.Lib

theorem wpList_unguard' {P : Program} {ops : Array Oper} {rest : List Oper} {d : Option Tmp} {op : Op} {ty : TypeId} {pos : String} {after : Array Edge} {g : Option (Nat × Bool)} {a : Act} {w : World} {Q : Exit → Act → World → Prop}
    (hw : Region.wanted ⟨d, op, ty, pos, after, g⟩ (yielded ops a.tmps) = true) (h : wpList P ops Q (⟨d, op, ty, pos, after, none⟩ :: rest) a w) : wpList P ops Q (⟨d, op, ty, pos, after, g⟩ :: rest) a w := by
  unfold wpList at h ⊢
  rw [if_pos hw]
  rw [if_pos (by rfl)] at h
  exact h

/-- Two boxes made. -/
theorem boxes2 [Inhabited (Option Nat)] (w : World) (i n : Int) : ∃ w2, w2 = (w.alloc (.cells #[.int .i64 i] 3)).alloc (.cells #[.int .i64 n] 3) ∧ CB w2 3 w.heap.size [.int .i64 i] ∧ CB w2 3 (w.heap.size + 1) [.int .i64 n] ∧ Below w.heap.size w w2 := by
  obtain ⟨w1, h1, k1, b1, s1⟩ := alloc_cb w 3 [.int .i64 i]
  obtain ⟨w2, h2, k2, b2, s2⟩ := alloc_cb w1 3 [.int .i64 n]
  rw [s1] at k2
  exact ⟨w2, by rw [h2, h1], k1.fresh b2, k2, b1.tr b2⟩

set_option maxRecDepth 100000 in
set_option maxHeartbeats 2000000 in
theorem cut_no1 [Inhabited (Option Nat)] (w : World) (D S : Nat) (wv : Value) (k : Dk) (h : DkAt w D S wv k) (i m : Int) (hi : hasB i = false) :
    Calls Try.prog 28 #[.pointer (some ⟨D, 0, none⟩), .int .i64 i, .int .i64 m] w fun e w' => e = .returned (.int .i64 2) ∧ Below w.heap.size w w' := by
  obtain ⟨w2, h2, k1, k2, b2⟩ := boxes2 w i m
  have HAT := Lib.hid h
  have H2 := Lib.hid h2
  have B2 := Lib.hid b2
  have HAS := Lib.hid (has_no w2.drew i hi)
  have hS : Hid (CB w2.drew 3 w.heap.size [.int .i64 i] ∧ CB w2.drew 3 (w.heap.size + 1) [.int .i64 m]) := Lib.hid ⟨k1.drew, k2.drew⟩
  clear h h2 b2 k1 k2 hi
  go_enter Try.func28, Try.ntmps28
  go_wp2_with fail
  change Calls _ _ _ ((w.alloc (.cells #[.int .i64 i] 3)).alloc (.cells #[.int .i64 m] 3)) _
  rw [← H2.out]
  refine (there_any w2 D S wv k (HAT.out.fresh B2.out)).mono ?_
  rintro e w3 ⟨rfl, rfl⟩
  go_wp2_with fail
  refine pl_start 19 rfl (fun w' => CB w' 3 w.heap.size [.int .i64 i] ∧ CB w' 3 (w.heap.size + 1) [.int .i64 m]) (by kernel_rfl) ?_
  refine pl_take (i := 0) 12 rfl rfl rfl (by kernel_rfl) (by kernel_rfl) (by kernel_rfl) (by simp [Act.put]) hS.out ?_
  apply Exists.intro
  refine And.intro (fun w' hS' => ?_) ?_
  · have hc := hS'.1.cell 0 _ rfl
    clear hS'
    go_wp2
    first
      | exact ⟨trivial, rfl⟩
      | exact rfl
  refine pl_heavy (i := 1) rfl (by kernel_rfl) ?_
  go_wp2_with fail
  refine HAS.out.mono ?_
  rintro e w3 ⟨rfl, rfl⟩
  go_wp2
  refine And.intro hS.out ?_
  refine pl_take (i := 2) 14 rfl rfl rfl (by kernel_rfl) (by kernel_rfl) (by kernel_rfl) (by simp [Act.put]) hS.out ?_
  apply Exists.intro
  refine And.intro (fun w' hS' => ?_) ?_
  · clear hS'
    go_wp2
    first
      | exact ⟨trivial, rfl⟩
      | exact rfl
  refine pl_take (i := 3) 15 rfl rfl rfl (by kernel_rfl) (by kernel_rfl) (by kernel_rfl) (by simp [Act.put]) hS.out ?_
  apply Exists.intro
  refine And.intro (fun w' hS' => ?_) ?_
  · clear hS'
    go_wp2
    first
      | exact ⟨trivial, rfl⟩
      | exact rfl
  refine pl_skip (i := 4) rfl (by kernel_rfl) (by kernel_rfl) (by kernel_rfl) (by kernel_rfl) hS.out ?_
  apply Exists.intro
  refine And.intro (by simp [Act.put, go_sem]; rfl) ?_
  refine pl_skip (i := 5) rfl (by kernel_rfl) (by kernel_rfl) (by kernel_rfl) (by kernel_rfl) hS.out ?_
  apply Exists.intro
  refine And.intro (by simp [Act.put, go_sem]; rfl) ?_
  refine pl_take (i := 6) 18 rfl rfl rfl (by kernel_rfl) (by kernel_rfl) (by kernel_rfl) (by simp [Act.put]) hS.out ?_
  apply Exists.intro
  refine And.intro (fun w' hS' => ?_) ?_
  · clear hS'
    go_wp2
    first
      | exact ⟨trivial, rfl⟩
      | exact rfl
  refine pl_take (i := 7) 19 rfl rfl rfl (by kernel_rfl) (by kernel_rfl) (by kernel_rfl) (by simp [Act.put]) hS.out ?_
  apply Exists.intro
  refine And.intro (fun w' hS' => ?_) ?_
  · clear hS'
    go_wp2
    first
      | exact ⟨trivial, rfl⟩
      | exact rfl
  refine pl_skip (i := 8) rfl (by kernel_rfl) (by kernel_rfl) (by kernel_rfl) (by kernel_rfl) hS.out ?_
  apply Exists.intro
  refine And.intro (by simp [Act.put, go_sem]; rfl) ?_
  refine pl_skip (i := 9) rfl (by kernel_rfl) (by kernel_rfl) (by kernel_rfl) (by kernel_rfl) hS.out ?_
  apply Exists.intro
  refine And.intro (by simp [Act.put, go_sem]; rfl) ?_
  refine pl_skip (i := 10) rfl (by kernel_rfl) (by kernel_rfl) (by kernel_rfl) (by kernel_rfl) hS.out ?_
  apply Exists.intro
  refine And.intro (by simp [Act.put, go_sem]; rfl) ?_
  refine pl_skip (i := 11) rfl (by kernel_rfl) (by kernel_rfl) (by kernel_rfl) (by kernel_rfl) hS.out ?_
  apply Exists.intro
  refine And.intro (by simp [Act.put, go_sem]; rfl) ?_
  refine pl_skip (i := 12) rfl (by kernel_rfl) (by kernel_rfl) (by kernel_rfl) (by kernel_rfl) hS.out ?_
  apply Exists.intro
  refine And.intro (by simp [Act.put, go_sem]; rfl) ?_
  refine pl_skip (i := 13) rfl (by kernel_rfl) (by kernel_rfl) (by kernel_rfl) (by kernel_rfl) hS.out ?_
  apply Exists.intro
  refine And.intro (by simp [Act.put, go_sem]; rfl) ?_
  refine pl_skip (i := 14) rfl (by kernel_rfl) (by kernel_rfl) (by kernel_rfl) (by kernel_rfl) hS.out ?_
  apply Exists.intro
  refine And.intro (by simp [Act.put, go_sem]; rfl) ?_
  refine pl_skip (i := 15) rfl (by kernel_rfl) (by kernel_rfl) (by kernel_rfl) (by kernel_rfl) hS.out ?_
  apply Exists.intro
  refine And.intro (by simp [Act.put, go_sem]; rfl) ?_
  refine pl_skip (i := 16) rfl (by kernel_rfl) (by kernel_rfl) (by kernel_rfl) (by kernel_rfl) hS.out ?_
  apply Exists.intro
  refine And.intro (by simp [Act.put, go_sem]; rfl) ?_
  refine pl_take (i := 17) 29 rfl rfl rfl (by kernel_rfl) (by kernel_rfl) (by kernel_rfl) (by simp [Act.put]) hS.out ?_
  apply Exists.intro
  refine And.intro (fun w' hS' => ?_) ?_
  · clear hS'
    go_wp2
    first
      | exact ⟨trivial, rfl⟩
      | exact rfl
  refine pl_take (i := 18) 11 rfl rfl rfl (by kernel_rfl) (by kernel_rfl) (by kernel_rfl) (by simp [Act.put]) hS.out ?_
  apply Exists.intro
  refine And.intro (fun w' hS' => ?_) ?_
  · clear hS'
    go_wp2
    first
      | exact ⟨trivial, rfl⟩
      | exact rfl
  refine pl_done (by kernel_rfl) ?_
  go_wp2
  go_ret
  exact ⟨rfl, B2.out.drew⟩

set_option maxRecDepth 100000 in
set_option maxHeartbeats 2000000 in
theorem cut_no2 [Inhabited (Option Nat)] (w : World) (D S : Nat) (wv : Value) (k : Dk) (h : DkAt w D S wv k) (i : Nat) (m : Int) (hi : i < 16) (hm : m < 0) :
    Calls Try.prog 28 #[.pointer (some ⟨D, 0, none⟩), .int .i64 (i : Int), .int .i64 m] w fun e w' => e = .returned (.int .i64 2) ∧ Below w.heap.size w w' := by
  obtain ⟨w2, h2, k1, k2, b2⟩ := boxes2 w (i : Int) m
  have HAT := Lib.hid h
  have H2 := Lib.hid h2
  have B2 := Lib.hid b2
  have HAS := Lib.hid (has_yes w2.drew i hi)
  obtain ⟨vs, ns, css, hd⟩ := h.fresh b2
  obtain ⟨u, l, hv, hls, hr, hg⟩ := hd.ln.get hi
  have hc7 := hd.cd.cell (i + 1) _ ((dkC_now hd.ln.1 hi).trans hv)
  rw [Nat.add_comm i 1] at hc7
  obtain ⟨al, cl, rfl⟩ := hr.slice
  obtain ⟨n, hn⟩ : ∃ n, n = l.length := ⟨_, rfl⟩
  rw [← hn] at hc7
  have hS : Hid (CB w2.drew 3 w.heap.size [.int .i64 (i : Int)] ∧ CB w2.drew 3 (w.heap.size + 1) [.int .i64 m] ∧ w2.drew.cell? ⟨D, 1 + i, none⟩ = some (.slice al n cl)) := Lib.hid ⟨k1.drew, k2.drew, hc7⟩
  have b1 : ¬ 0 ≤ m := by omega
  have bi : (i : Int) < 16 := by omega
  clear h h2 b2 k1 k2 hi hd hv hls hr hg hc7 hn
  go_enter Try.func28, Try.ntmps28
  go_wp2_with fail
  change Calls _ _ _ ((w.alloc (.cells #[.int .i64 (i : Int)] 3)).alloc (.cells #[.int .i64 m] 3)) _
  rw [← H2.out]
  refine (there_any w2 D S wv k (HAT.out.fresh B2.out)).mono ?_
  rintro e w3 ⟨rfl, rfl⟩
  go_wp2_with fail
  refine pl_start 19 rfl (fun w' => CB w' 3 w.heap.size [.int .i64 (i : Int)] ∧ CB w' 3 (w.heap.size + 1) [.int .i64 m] ∧ w'.cell? ⟨D, 1 + i, none⟩ = some (.slice al n cl)) (by kernel_rfl) ?_
  refine pl_take (i := 0) 12 rfl rfl rfl (by kernel_rfl) (by kernel_rfl) (by kernel_rfl) (by simp [Act.put]) hS.out ?_
  apply Exists.intro
  refine And.intro (fun w' hS' => ?_) ?_
  · have hc := hS'.1.cell 0 _ rfl
    clear hS'
    go_wp2
    first
      | exact ⟨trivial, rfl⟩
      | exact rfl
  refine pl_heavy (i := 1) rfl (by kernel_rfl) ?_
  go_wp2_with fail
  refine HAS.out.mono ?_
  rintro e w3 ⟨rfl, rfl⟩
  go_wp2
  refine And.intro hS.out ?_
  refine pl_take (i := 2) 14 rfl rfl rfl (by kernel_rfl) (by kernel_rfl) (by kernel_rfl) (by simp [Act.put]) hS.out ?_
  apply Exists.intro
  refine And.intro (fun w' hS' => ?_) ?_
  · clear hS'
    go_wp2
    first
      | exact ⟨trivial, rfl⟩
      | exact rfl
  refine pl_take (i := 3) 15 rfl rfl rfl (by kernel_rfl) (by kernel_rfl) (by kernel_rfl) (by simp [Act.put]) hS.out ?_
  apply Exists.intro
  refine And.intro (fun w' hS' => ?_) ?_
  · clear hS'
    go_wp2
    first
      | exact ⟨trivial, rfl⟩
      | exact rfl
  refine pl_take (i := 4) 16 rfl rfl rfl (by kernel_rfl) (by kernel_rfl) (by kernel_rfl) (by simp [Act.put]) hS.out ?_
  apply Exists.intro
  refine And.intro (fun w' hS' => ?_) ?_
  · refine wpList_unguard' rfl ?_
    have hc := hS'.2.1.cell 0 _ rfl
    clear hS'
    go_wp2
    first
      | exact ⟨trivial, rfl⟩
      | exact rfl
  refine pl_take (i := 5) 17 rfl rfl rfl (by kernel_rfl) (by kernel_rfl) (by kernel_rfl) (by simp [Act.put]) hS.out ?_
  apply Exists.intro
  refine And.intro (fun w' hS' => ?_) ?_
  · refine wpList_unguard' rfl ?_
    clear hS'
    go_wp2
    first
      | exact ⟨trivial, rfl⟩
      | exact rfl
  refine pl_take (i := 6) 18 rfl rfl rfl (by kernel_rfl) (by kernel_rfl) (by kernel_rfl) (by simp [Act.put]) hS.out ?_
  apply Exists.intro
  refine And.intro (fun w' hS' => ?_) ?_
  · clear hS'
    go_wp2
    first
      | exact ⟨trivial, rfl⟩
      | exact rfl
  refine pl_take (i := 7) 19 rfl rfl rfl (by kernel_rfl) (by kernel_rfl) (by kernel_rfl) (by simp [Act.put]) hS.out ?_
  apply Exists.intro
  refine And.intro (fun w' hS' => ?_) ?_
  · clear hS'
    go_wp2
    first
      | exact ⟨trivial, rfl⟩
      | exact rfl
  refine pl_skip (i := 8) rfl (by kernel_rfl) (by kernel_rfl) (by kernel_rfl) (by kernel_rfl) hS.out ?_
  apply Exists.intro
  refine And.intro (by simp [Act.put, go_sem]; rfl) ?_
  refine pl_skip (i := 9) rfl (by kernel_rfl) (by kernel_rfl) (by kernel_rfl) (by kernel_rfl) hS.out ?_
  apply Exists.intro
  refine And.intro (by simp [Act.put, go_sem]; rfl) ?_
  refine pl_skip (i := 10) rfl (by kernel_rfl) (by kernel_rfl) (by kernel_rfl) (by kernel_rfl) hS.out ?_
  apply Exists.intro
  refine And.intro (by simp [Act.put, go_sem]; rfl) ?_
  refine pl_skip (i := 11) rfl (by kernel_rfl) (by kernel_rfl) (by kernel_rfl) (by kernel_rfl) hS.out ?_
  apply Exists.intro
  refine And.intro (by simp [Act.put, go_sem]; rfl) ?_
  refine pl_skip (i := 12) rfl (by kernel_rfl) (by kernel_rfl) (by kernel_rfl) (by kernel_rfl) hS.out ?_
  apply Exists.intro
  refine And.intro (by simp [Act.put, go_sem]; rfl) ?_
  refine pl_skip (i := 13) rfl (by kernel_rfl) (by kernel_rfl) (by kernel_rfl) (by kernel_rfl) hS.out ?_
  apply Exists.intro
  refine And.intro (by simp [Act.put, go_sem]; rfl) ?_
  refine pl_skip (i := 14) rfl (by kernel_rfl) (by kernel_rfl) (by kernel_rfl) (by kernel_rfl) hS.out ?_
  apply Exists.intro
  refine And.intro (by simp [Act.put, go_sem]; rfl) ?_
  refine pl_skip (i := 15) rfl (by kernel_rfl) (by kernel_rfl) (by kernel_rfl) (by kernel_rfl) hS.out ?_
  apply Exists.intro
  refine And.intro (by simp [Act.put, go_sem]; rfl) ?_
  refine pl_skip (i := 16) rfl (by kernel_rfl) (by kernel_rfl) (by kernel_rfl) (by kernel_rfl) hS.out ?_
  apply Exists.intro
  refine And.intro (by simp [Act.put, go_sem]; rfl) ?_
  refine pl_take (i := 17) 29 rfl rfl rfl (by kernel_rfl) (by kernel_rfl) (by kernel_rfl) (by simp [Act.put]) hS.out ?_
  apply Exists.intro
  refine And.intro (fun w' hS' => ?_) ?_
  · clear hS'
    go_wp2
    first
      | exact ⟨trivial, rfl⟩
      | exact rfl
  refine pl_take (i := 18) 11 rfl rfl rfl (by kernel_rfl) (by kernel_rfl) (by kernel_rfl) (by simp [Act.put]) hS.out ?_
  apply Exists.intro
  refine And.intro (fun w' hS' => ?_) ?_
  · clear hS'
    go_wp2
    first
      | exact ⟨trivial, rfl⟩
      | exact rfl
  refine pl_done (by kernel_rfl) ?_
  go_wp2
  go_ret
  exact ⟨rfl, B2.out.drew⟩

set_option maxRecDepth 100000 in
set_option maxHeartbeats 2000000 in
theorem cut_no3 [Inhabited (Option Nat)] (w : World) (D S : Nat) (wv : Value) (k : Dk) (h : DkAt w D S wv k) (i : Nat) (m : Int) (hi : i < 16) (hm : ((k.now.getD i []).length : Int) < m) :
    Calls Try.prog 28 #[.pointer (some ⟨D, 0, none⟩), .int .i64 (i : Int), .int .i64 m] w fun e w' => e = .returned (.int .i64 2) ∧ Below w.heap.size w w' := by
  obtain ⟨w2, h2, k1, k2, b2⟩ := boxes2 w (i : Int) m
  have HAT := Lib.hid h
  have H2 := Lib.hid h2
  have B2 := Lib.hid b2
  have HAS := Lib.hid (has_yes w2.drew i hi)
  obtain ⟨vs, ns, css, hd⟩ := h.fresh b2
  obtain ⟨u, l, hv, hls, hr, hg⟩ := hd.ln.get hi
  have hc7 := hd.cd.cell (i + 1) _ ((dkC_now hd.ln.1 hi).trans hv)
  rw [Nat.add_comm i 1] at hc7
  obtain ⟨al, cl, rfl⟩ := hr.slice
  obtain ⟨n, hn⟩ : ∃ n, n = l.length := ⟨_, rfl⟩
  rw [← hn] at hc7
  have hS : Hid (CB w2.drew 3 w.heap.size [.int .i64 (i : Int)] ∧ CB w2.drew 3 (w.heap.size + 1) [.int .i64 m] ∧ w2.drew.cell? ⟨D, 1 + i, none⟩ = some (.slice al n cl)) := Lib.hid ⟨k1.drew, k2.drew, hc7⟩
  rw [hg, ← hn] at hm
  have b0 : 0 ≤ m := by omega
  have b1 : (decide (m < 0)) = false := by simpa using b0
  have bi : (i : Int) < 16 := by omega
  clear h h2 b2 k1 k2 hi hd hv hls hr hg hc7 hn
  go_enter Try.func28, Try.ntmps28
  go_wp2_with fail
  change Calls _ _ _ ((w.alloc (.cells #[.int .i64 (i : Int)] 3)).alloc (.cells #[.int .i64 m] 3)) _
  rw [← H2.out]
  refine (there_any w2 D S wv k (HAT.out.fresh B2.out)).mono ?_
  rintro e w3 ⟨rfl, rfl⟩
  go_wp2_with fail
  refine pl_start 19 rfl (fun w' => CB w' 3 w.heap.size [.int .i64 (i : Int)] ∧ CB w' 3 (w.heap.size + 1) [.int .i64 m] ∧ w'.cell? ⟨D, 1 + i, none⟩ = some (.slice al n cl)) (by kernel_rfl) ?_
  refine pl_take (i := 0) 12 rfl rfl rfl (by kernel_rfl) (by kernel_rfl) (by kernel_rfl) (by simp [Act.put]) hS.out ?_
  apply Exists.intro
  refine And.intro (fun w' hS' => ?_) ?_
  · have hc := hS'.1.cell 0 _ rfl
    clear hS'
    go_wp2
    first
      | exact ⟨trivial, rfl⟩
      | exact rfl
  refine pl_heavy (i := 1) rfl (by kernel_rfl) ?_
  go_wp2_with fail
  refine HAS.out.mono ?_
  rintro e w3 ⟨rfl, rfl⟩
  go_wp2
  refine And.intro hS.out ?_
  refine pl_take (i := 2) 14 rfl rfl rfl (by kernel_rfl) (by kernel_rfl) (by kernel_rfl) (by simp [Act.put]) hS.out ?_
  apply Exists.intro
  refine And.intro (fun w' hS' => ?_) ?_
  · clear hS'
    go_wp2
    first
      | exact ⟨trivial, rfl⟩
      | exact rfl
  refine pl_take (i := 3) 15 rfl rfl rfl (by kernel_rfl) (by kernel_rfl) (by kernel_rfl) (by simp [Act.put]) hS.out ?_
  apply Exists.intro
  refine And.intro (fun w' hS' => ?_) ?_
  · clear hS'
    go_wp2
    first
      | exact ⟨trivial, rfl⟩
      | exact rfl
  refine pl_take (i := 4) 16 rfl rfl rfl (by kernel_rfl) (by kernel_rfl) (by kernel_rfl) (by simp [Act.put]) hS.out ?_
  apply Exists.intro
  refine And.intro (fun w' hS' => ?_) ?_
  · refine wpList_unguard' rfl ?_
    have hc := hS'.2.1.cell 0 _ rfl
    clear hS'
    go_wp2
    first
      | exact ⟨trivial, rfl⟩
      | exact rfl
  refine pl_take (i := 5) 17 rfl rfl rfl (by kernel_rfl) (by kernel_rfl) (by kernel_rfl) (by simp [Act.put]) hS.out ?_
  apply Exists.intro
  refine And.intro (fun w' hS' => ?_) ?_
  · refine wpList_unguard' rfl ?_
    clear hS'
    go_wp2
    first
      | exact ⟨trivial, rfl⟩
      | exact rfl
  refine pl_take (i := 6) 18 rfl rfl rfl (by kernel_rfl) (by kernel_rfl) (by kernel_rfl) (by simp [Act.put]) hS.out ?_
  apply Exists.intro
  refine And.intro (fun w' hS' => ?_) ?_
  · clear hS'
    go_wp2
    first
      | exact ⟨trivial, rfl⟩
      | exact rfl
  refine pl_take (i := 7) 19 rfl rfl rfl (by kernel_rfl) (by kernel_rfl) (by kernel_rfl) (by simp [Act.put]) hS.out ?_
  apply Exists.intro
  refine And.intro (fun w' hS' => ?_) ?_
  · clear hS'
    go_wp2
    first
      | exact ⟨trivial, rfl⟩
      | exact rfl
  refine pl_take (i := 8) 20 rfl rfl rfl (by kernel_rfl) (by kernel_rfl) (by kernel_rfl) (by simp [Act.put]) hS.out ?_
  apply Exists.intro
  refine And.intro (fun w' hS' => ?_) ?_
  · refine wpList_unguard' rfl ?_
    have hc := hS'.2.1.cell 0 _ rfl
    clear hS'
    go_wp2
    first
      | exact ⟨trivial, rfl⟩
      | exact rfl
  refine pl_take (i := 9) 21 rfl rfl rfl (by kernel_rfl) (by kernel_rfl) (by kernel_rfl) (by simp [Act.put]) hS.out ?_
  apply Exists.intro
  refine And.intro (fun w' hS' => ?_) ?_
  · refine wpList_unguard' rfl ?_
    clear hS'
    go_wp2
    first
      | exact ⟨trivial, rfl⟩
      | exact rfl
  refine pl_take (i := 10) 22 rfl rfl rfl (by kernel_rfl) (by kernel_rfl) (by kernel_rfl) (by simp [Act.put]) hS.out ?_
  apply Exists.intro
  refine And.intro (fun w' hS' => ?_) ?_
  · refine wpList_unguard' rfl ?_
    have hc := hS'.1.cell 0 _ rfl
    clear hS'
    go_wp2
    first
      | exact ⟨trivial, rfl⟩
      | exact rfl
  refine pl_take (i := 11) 23 rfl rfl rfl (by kernel_rfl) (by kernel_rfl) (by kernel_rfl) (by simp [Act.put]) hS.out ?_
  apply Exists.intro
  refine And.intro (fun w' hS' => ?_) ?_
  · refine wpList_unguard' rfl ?_
    clear hS'
    go_wp2
    first
      | exact ⟨trivial, rfl⟩
      | exact rfl
  refine pl_take (i := 12) 24 rfl rfl rfl (by kernel_rfl) (by kernel_rfl) (by kernel_rfl) (by simp [Act.put]) hS.out ?_
  apply Exists.intro
  refine And.intro (fun w' hS' => ?_) ?_
  · refine wpList_unguard' rfl ?_
    clear hS'
    go_wp2
    first
      | exact ⟨trivial, rfl⟩
      | exact rfl
  refine pl_take (i := 13) 25 rfl rfl rfl (by kernel_rfl) (by kernel_rfl) (by kernel_rfl) (by simp [Act.put]) hS.out ?_
  apply Exists.intro
  refine And.intro (fun w' hS' => ?_) ?_
  · refine wpList_unguard' rfl ?_
    clear hS'
    go_wp2
    first
      | exact ⟨trivial, rfl⟩
      | exact rfl
  refine pl_take (i := 14) 26 rfl rfl rfl (by kernel_rfl) (by kernel_rfl) (by kernel_rfl) (by simp [Act.put]) hS.out ?_
  apply Exists.intro
  refine And.intro (fun w' hS' => ?_) ?_
  · refine wpList_unguard' rfl ?_
    have hc := hS'.2.2
    clear hS'
    go_wp2
    first
      | exact ⟨trivial, rfl⟩
      | exact rfl
  refine pl_take (i := 15) 27 rfl rfl rfl (by kernel_rfl) (by kernel_rfl) (by kernel_rfl) (by simp [Act.put]) hS.out ?_
  apply Exists.intro
  refine And.intro (fun w' hS' => ?_) ?_
  · refine wpList_unguard' rfl ?_
    clear hS'
    go_wp2
    first
      | exact ⟨trivial, rfl⟩
      | exact rfl
  refine pl_take (i := 16) 28 rfl rfl rfl (by kernel_rfl) (by kernel_rfl) (by kernel_rfl) (by simp [Act.put]) hS.out ?_
  apply Exists.intro
  refine And.intro (fun w' hS' => ?_) ?_
  · refine wpList_unguard' rfl ?_
    clear hS'
    go_wp2
    first
      | exact ⟨trivial, rfl⟩
      | exact rfl
  refine pl_take (i := 17) 29 rfl rfl rfl (by kernel_rfl) (by kernel_rfl) (by kernel_rfl) (by simp [Act.put]) hS.out ?_
  apply Exists.intro
  refine And.intro (fun w' hS' => ?_) ?_
  · clear hS'
    go_wp2
    first
      | exact ⟨trivial, rfl⟩
      | exact rfl
  refine pl_take (i := 18) 11 rfl rfl rfl (by kernel_rfl) (by kernel_rfl) (by kernel_rfl) (by simp [Act.put]) hS.out ?_
  apply Exists.intro
  refine And.intro (fun w' hS' => ?_) ?_
  · clear hS'
    go_wp2
    first
      | exact ⟨trivial, rfl⟩
      | exact rfl
  refine pl_done (by kernel_rfl) ?_
  go_wp2
  go_ret
  exact ⟨rfl, B2.out.drew⟩

set_option maxRecDepth 100000 in
set_option maxHeartbeats 2000000 in
theorem cut_any [Inhabited (Option Nat)] (w : World) (D S : Nat) (wv : Value) (k : Dk) (h : DkAt w D S wv k) (i q : Nat) (hi : i < 16) (hm : q ≤ (k.now.getD i []).length) (hf : 0 ≤ k.fuse) (hf' : k.fuse ≤ 9223372036854775807) (hl : ∀ l ∈ k.now, l.length ≤ 16777216) (hw : k.wait.length ≤ 1000000) (hav : Av w.heap.size) :
    Calls Try.prog 28 #[.pointer (some ⟨D, 0, none⟩), .int .i64 (i : Int), .int .i64 (q : Int)] w fun e w' => e = .returned (.int .i64 (burnK k).1) ∧ ∃ wv', DkAt w' D S wv' (putK k (.cut i q)) ∧ Mv D S wv w w' ∧ Grew w wv wv' := by
  obtain ⟨w2, h2, k1, k2, b2⟩ := boxes2 w (i : Int) (q : Int)
  have HAT := Lib.hid h
  have H2 := Lib.hid h2
  have B2 := Lib.hid b2
  have HAS := Lib.hid (has_yes w2.drew i hi)
  obtain ⟨vs, ns, css, hd⟩ := h.fresh b2
  obtain ⟨u, l, hv, hls, hr, hg⟩ := hd.ln.get hi
  have hc7 := hd.cd.cell (i + 1) _ ((dkC_now hd.ln.1 hi).trans hv)
  rw [Nat.add_comm i 1] at hc7
  obtain ⟨al, cl, rfl⟩ := hr.slice
  obtain ⟨n, hn⟩ : ∃ n, n = l.length := ⟨_, rfl⟩
  rw [← hn] at hc7
  have hS : Hid (CB w2.drew 3 w.heap.size [.int .i64 (i : Int)] ∧ CB w2.drew 3 (w.heap.size + 1) [.int .i64 (q : Int)] ∧ w2.drew.cell? ⟨D, 1 + i, none⟩ = some (.slice al n cl)) := Lib.hid ⟨k1.drew, k2.drew, hc7⟩
  have HM := Lib.hid hm
  rw [hg, ← hn] at hm
  have b1 : ¬ (n : Int) < (q : Int) := by omega
  have HI := Lib.hid hi
  have HK := Lib.hid (And.intro hf (And.intro hf' (And.intro hl hw)))
  have AV := Lib.hid hav
  clear hf hf' hl hw hav
  have bi : (i : Int) < 16 := by omega
  clear h h2 b2 k1 k2 hi hd hv hls hr hg hc7 hn
  go_enter Try.func28, Try.ntmps28
  go_wp2_with fail
  change Calls _ _ _ ((w.alloc (.cells #[.int .i64 (i : Int)] 3)).alloc (.cells #[.int .i64 (q : Int)] 3)) _
  rw [← H2.out]
  refine (there_any w2 D S wv k (HAT.out.fresh B2.out)).mono ?_
  rintro e w3 ⟨rfl, rfl⟩
  go_wp2_with fail
  refine pl_start 19 rfl (fun w' => CB w' 3 w.heap.size [.int .i64 (i : Int)] ∧ CB w' 3 (w.heap.size + 1) [.int .i64 (q : Int)] ∧ w'.cell? ⟨D, 1 + i, none⟩ = some (.slice al n cl)) (by kernel_rfl) ?_
  refine pl_take (i := 0) 12 rfl rfl rfl (by kernel_rfl) (by kernel_rfl) (by kernel_rfl) (by simp [Act.put]) hS.out ?_
  apply Exists.intro
  refine And.intro (fun w' hS' => ?_) ?_
  · have hc := hS'.1.cell 0 _ rfl
    clear hS'
    go_wp2
    first
      | exact ⟨trivial, rfl⟩
      | exact rfl
  refine pl_heavy (i := 1) rfl (by kernel_rfl) ?_
  go_wp2_with fail
  refine HAS.out.mono ?_
  rintro e w3 ⟨rfl, rfl⟩
  go_wp2
  refine And.intro hS.out ?_
  refine pl_take (i := 2) 14 rfl rfl rfl (by kernel_rfl) (by kernel_rfl) (by kernel_rfl) (by simp [Act.put]) hS.out ?_
  apply Exists.intro
  refine And.intro (fun w' hS' => ?_) ?_
  · clear hS'
    go_wp2
    first
      | exact ⟨trivial, rfl⟩
      | exact rfl
  refine pl_take (i := 3) 15 rfl rfl rfl (by kernel_rfl) (by kernel_rfl) (by kernel_rfl) (by simp [Act.put]) hS.out ?_
  apply Exists.intro
  refine And.intro (fun w' hS' => ?_) ?_
  · clear hS'
    go_wp2
    first
      | exact ⟨trivial, rfl⟩
      | exact rfl
  refine pl_take (i := 4) 16 rfl rfl rfl (by kernel_rfl) (by kernel_rfl) (by kernel_rfl) (by simp [Act.put]) hS.out ?_
  apply Exists.intro
  refine And.intro (fun w' hS' => ?_) ?_
  · refine wpList_unguard' rfl ?_
    have hc := hS'.2.1.cell 0 _ rfl
    clear hS'
    go_wp2
    first
      | exact ⟨trivial, rfl⟩
      | exact rfl
  refine pl_take (i := 5) 17 rfl rfl rfl (by kernel_rfl) (by kernel_rfl) (by kernel_rfl) (by simp [Act.put]) hS.out ?_
  apply Exists.intro
  refine And.intro (fun w' hS' => ?_) ?_
  · refine wpList_unguard' rfl ?_
    clear hS'
    go_wp2
    first
      | exact ⟨trivial, rfl⟩
      | exact rfl
  refine pl_take (i := 6) 18 rfl rfl rfl (by kernel_rfl) (by kernel_rfl) (by kernel_rfl) (by simp [Act.put]) hS.out ?_
  apply Exists.intro
  refine And.intro (fun w' hS' => ?_) ?_
  · clear hS'
    go_wp2
    first
      | exact ⟨trivial, rfl⟩
      | exact rfl
  refine pl_take (i := 7) 19 rfl rfl rfl (by kernel_rfl) (by kernel_rfl) (by kernel_rfl) (by simp [Act.put]) hS.out ?_
  apply Exists.intro
  refine And.intro (fun w' hS' => ?_) ?_
  · clear hS'
    go_wp2
    first
      | exact ⟨trivial, rfl⟩
      | exact rfl
  refine pl_take (i := 8) 20 rfl rfl rfl (by kernel_rfl) (by kernel_rfl) (by kernel_rfl) (by simp [Act.put]) hS.out ?_
  apply Exists.intro
  refine And.intro (fun w' hS' => ?_) ?_
  · refine wpList_unguard' rfl ?_
    have hc := hS'.2.1.cell 0 _ rfl
    clear hS'
    go_wp2
    first
      | exact ⟨trivial, rfl⟩
      | exact rfl
  refine pl_take (i := 9) 21 rfl rfl rfl (by kernel_rfl) (by kernel_rfl) (by kernel_rfl) (by simp [Act.put]) hS.out ?_
  apply Exists.intro
  refine And.intro (fun w' hS' => ?_) ?_
  · refine wpList_unguard' rfl ?_
    clear hS'
    go_wp2
    first
      | exact ⟨trivial, rfl⟩
      | exact rfl
  refine pl_take (i := 10) 22 rfl rfl rfl (by kernel_rfl) (by kernel_rfl) (by kernel_rfl) (by simp [Act.put]) hS.out ?_
  apply Exists.intro
  refine And.intro (fun w' hS' => ?_) ?_
  · refine wpList_unguard' rfl ?_
    have hc := hS'.1.cell 0 _ rfl
    clear hS'
    go_wp2
    first
      | exact ⟨trivial, rfl⟩
      | exact rfl
  refine pl_take (i := 11) 23 rfl rfl rfl (by kernel_rfl) (by kernel_rfl) (by kernel_rfl) (by simp [Act.put]) hS.out ?_
  apply Exists.intro
  refine And.intro (fun w' hS' => ?_) ?_
  · refine wpList_unguard' rfl ?_
    clear hS'
    go_wp2
    first
      | exact ⟨trivial, rfl⟩
      | exact rfl
  refine pl_take (i := 12) 24 rfl rfl rfl (by kernel_rfl) (by kernel_rfl) (by kernel_rfl) (by simp [Act.put]) hS.out ?_
  apply Exists.intro
  refine And.intro (fun w' hS' => ?_) ?_
  · refine wpList_unguard' rfl ?_
    clear hS'
    go_wp2
    first
      | exact ⟨trivial, rfl⟩
      | exact rfl
  refine pl_take (i := 13) 25 rfl rfl rfl (by kernel_rfl) (by kernel_rfl) (by kernel_rfl) (by simp [Act.put]) hS.out ?_
  apply Exists.intro
  refine And.intro (fun w' hS' => ?_) ?_
  · refine wpList_unguard' rfl ?_
    clear hS'
    go_wp2
    first
      | exact ⟨trivial, rfl⟩
      | exact rfl
  refine pl_take (i := 14) 26 rfl rfl rfl (by kernel_rfl) (by kernel_rfl) (by kernel_rfl) (by simp [Act.put]) hS.out ?_
  apply Exists.intro
  refine And.intro (fun w' hS' => ?_) ?_
  · refine wpList_unguard' rfl ?_
    have hc := hS'.2.2
    clear hS'
    go_wp2
    first
      | exact ⟨trivial, rfl⟩
      | exact rfl
  refine pl_take (i := 15) 27 rfl rfl rfl (by kernel_rfl) (by kernel_rfl) (by kernel_rfl) (by simp [Act.put]) hS.out ?_
  apply Exists.intro
  refine And.intro (fun w' hS' => ?_) ?_
  · refine wpList_unguard' rfl ?_
    clear hS'
    go_wp2
    first
      | exact ⟨trivial, rfl⟩
      | exact rfl
  refine pl_take (i := 16) 28 rfl rfl rfl (by kernel_rfl) (by kernel_rfl) (by kernel_rfl) (by simp [Act.put]) hS.out ?_
  apply Exists.intro
  refine And.intro (fun w' hS' => ?_) ?_
  · refine wpList_unguard' rfl ?_
    clear hS'
    go_wp2
    first
      | exact ⟨trivial, rfl⟩
      | exact rfl
  refine pl_take (i := 17) 29 rfl rfl rfl (by kernel_rfl) (by kernel_rfl) (by kernel_rfl) (by simp [Act.put]) hS.out ?_
  apply Exists.intro
  refine And.intro (fun w' hS' => ?_) ?_
  · clear hS'
    go_wp2
    first
      | exact ⟨trivial, rfl⟩
      | exact rfl
  refine pl_take (i := 18) 11 rfl rfl rfl (by kernel_rfl) (by kernel_rfl) (by kernel_rfl) (by simp [Act.put]) hS.out ?_
  apply Exists.intro
  refine And.intro (fun w' hS' => ?_) ?_
  · clear hS'
    go_wp2
    first
      | exact ⟨trivial, rfl⟩
      | exact rfl
  refine pl_done (by kernel_rfl) ?_
  have BD := Lib.hid B2.out.drew
  have ST : Hid (StC w2.drew (stV 61 w.heap.size (w.heap.size + 1) 0 (.slice none 0 0)) (.cut i q) ∧ StF w2.drew 61 w.heap.size (w.heap.size + 1) (.cut i q)) := Lib.hid ⟨⟨HI.out, _, _, rfl, hS.out.1, hS.out.2.1⟩, ⟨rfl, HI.out, hS.out.1, hS.out.2.1⟩⟩
  clear hS
  go_wp2_with fail
  refine (put_any w2.drew D S wv k (HAT.out.fresh BD.out) _ w.heap.size (w.heap.size + 1) 0 none 0 0 (.cut i q) ST.out.1 ST.out.2 HK.out.1 HK.out.2.1 (by rw [app_cut]; exact mem_set_le (fun x hx => by have := HK.out.2.2.1 x hx; omega) (by
    rw [List.length_take]
    rcases Nat.lt_or_ge i k.now.length with hlt | hge
    · have := HK.out.2.2.1 (k.now.getD i []) (by rw [List.getD_eq_getElem?_getD, List.getElem?_eq_getElem hlt]; exact List.getElem_mem hlt)
      omega
    · rw [List.getD_eq_getElem?_getD, List.getElem?_eq_none hge]
      simp)) HK.out.2.2.2 (AV.out.mono BD.out.size)).mono ?_
  rintro e w4 ⟨rfl, wv', d4, m4, g4⟩
  have D4 := Lib.hid (And.intro d4 (And.intro m4 g4))
  clear d4 m4 g4
  go_wp2
  go_ret
  exact ⟨rfl, wv', D4.out.1, (Mv.fresh BD.out).tr' D4.out.2.1, fun j hj => (D4.out.2.2 j hj).imp id (fun h => Nat.le_trans BD.out.size h)⟩

end Go.Proofs.Ytbbbgpdhdlknjaa
