/- Disks: whether two have the same bytes; a copy: the walks. -/
import Derived.Test.YtbbbgpdhdlknjaaDq
namespace Go.Proofs.Ytbbbgpdhdlknjaa
set_option linter.unusedVariables false
set_option linter.unusedSimpArgs false
open Go.RowKit Go.Lib

set_option maxRecDepth 100000 in
set_option maxHeartbeats 2000000 in
theorem same_any [Inhabited (Option Nat)] (w : World) (D S D2 S2 : Nat) (wv wv2 : Value) (k k2 : Dk) (h : DkAt w D S wv k) (h2 : DkAt w D2 S2 wv2 k2) :
    Calls Try.prog 26 #[.pointer (some ⟨D, 0, none⟩), .pointer (some ⟨D2, 0, none⟩)] w fun e w' => e = .returned (.bool (decide (k.now = k2.now))) ∧ Below w.heap.size w w' := by
  have T := Lib.hid (there_any w D S wv k h)
  have T2 := Lib.hid (there_any w D2 S2 wv2 k2 h2)
  obtain ⟨vs, ns, css, hd⟩ := h
  obtain ⟨vs2, ns2, css2, hd2⟩ := h2
  have H1 := Lib.hid hd
  have H2 := Lib.hid hd2
  have HL : Hid (k.now.length = 16 ∧ k2.now.length = 16) := Lib.hid ⟨hd.ln.2.1, hd2.ln.2.1⟩
  obtain ⟨A, hA⟩ : ∃ A, A = k.now := ⟨_, rfl⟩
  obtain ⟨B, hB⟩ : ∃ B, B = k2.now := ⟨_, rfl⟩
  rw [← hA, ← hB] at HL ⊢
  have HAB := Lib.hid (And.intro hA hB)
  clear hd hd2 hA hB
  obtain ⟨R, hR⟩ : ∃ R, R = decide (A = B) := ⟨_, rfl⟩
  rw [← hR]
  have HR := Lib.hid hR
  clear hR
  go_enter Try.func26, Try.ntmps26
  go_wp2_with fail
  refine (T.out).mono ?_
  rintro e w1 ⟨rfl, rfl⟩
  go_wp2_with fail
  refine (T2.out).mono ?_
  rintro e w1 ⟨rfl, rfl⟩
  go_wp2
  go_loopw [5, 20] (fun v5 v20 wr => Below w.heap.size w wr ∧ ∃ j : Nat, j ≤ 16 ∧ v20 = .int .i64 (j : Int) ∧ v5 = .bool (decide (A.take j = B.take j)))
    (fun _ v _ => 16 - (RowKit.intOf v).toNat)
  case atStart => exact ⟨Below.refl _ _, 0, Nat.zero_le _, rfl, by simp⟩
  case round =>
    obtain ⟨hb, j, hj, rfl, rfl⟩ := hrel
    have HB := Lib.hid hb
    clear hb
    by_cases hjn : j < 16
    · have ij : (j : Int) < 16 := by omega
      obtain ⟨u, b, hu, hbb, hrd, hg⟩ := (H1.out.fresh HB.out.drew).ln.get hjn
      obtain ⟨u2, b2, hu2, hbb2, hrd2, hg2⟩ := (H2.out.fresh HB.out.drew).ln.get hjn
      obtain ⟨a1, c1, rfl⟩ := hrd.slice
      obtain ⟨a2, c2, rfl⟩ := hrd2.slice
      rw [← HAB.out.1] at hbb
      rw [← HAB.out.2] at hbb2
      have hc1 := (H1.out.fresh HB.out.drew).cd.cell (j + 1) _ ((dkC_now H1.out.ln.1 hjn).trans hu)
      have hc2 := (H2.out.fresh HB.out.drew).cd.cell (j + 1) _ ((dkC_now H2.out.ln.1 hjn).trans hu2)
      rw [Nat.add_comm j 1] at hc1 hc2
      have EQ := Lib.hid (equal_byte wr.drew _ _ b b2 hrd.1 hrd2.1)
      have hS : Hid (wr.drew.cell? ⟨D, 1 + j, none⟩ = some (.slice a1 b.length c1) ∧ wr.drew.cell? ⟨D2, 1 + j, none⟩ = some (.slice a2 b2.length c2)) := Lib.hid ⟨hc1, hc2⟩
      have step : Hid (decide (A.take (j + 1) = B.take (j + 1)) = (decide (A.take j = B.take j) && decide (b = b2))) := Lib.hid (by
        rw [List.take_add_one, List.take_add_one, hbb, hbb2]
        have l1 : (A.take j).length = (B.take j).length := by rw [List.length_take, List.length_take, HL.out.1, HL.out.2]
        rw [← Bool.decide_and]
        apply decide_eq_decide.2
        constructor
        · intro h
          have := List.append_inj h l1
          exact ⟨this.1, by simpa using this.2⟩
        · rintro ⟨h1, rfl⟩
          rw [h1])
      have HJ := Lib.hid hjn
      have BD : Hid (Below w.heap.size w wr.drew) := Lib.hid HB.out.drew
      clear hu hbb hrd hg hu2 hbb2 hrd2 hg2 hc1 hc2 hj hjn
      cases hq : decide (A.take j = B.take j)
      · have HQ := Lib.hid hq
        clear hq
        go_wp2_with fail
        refine pl_start 17 rfl (fun w' => w'.cell? ⟨D, 1 + j, none⟩ = some (.slice a1 b.length c1) ∧ w'.cell? ⟨D2, 1 + j, none⟩ = some (.slice a2 b2.length c2)) (by kernel_rfl) ?_
        refine pl_take (i := 0) 23 rfl rfl rfl (by kernel_rfl) (by kernel_rfl) (by kernel_rfl) (by simp [Act.put]) hS.out ?_
        apply Exists.intro
        refine And.intro (fun w' hS' => ?_) ?_
        · clear hS'
          go_wp2
          first
            | exact ⟨trivial, rfl⟩
            | exact rfl
        refine pl_take (i := 1) 24 rfl rfl rfl (by kernel_rfl) (by kernel_rfl) (by kernel_rfl) (by simp [Act.put]) hS.out ?_
        apply Exists.intro
        refine And.intro (fun w' hS' => ?_) ?_
        · clear hS'
          go_wp2
          first
            | exact ⟨trivial, rfl⟩
            | exact rfl
        refine pl_skip (i := 2) rfl (by kernel_rfl) (by kernel_rfl) (by kernel_rfl) (by kernel_rfl) hS.out ?_
        apply Exists.intro
        refine And.intro (by simp [Act.put, go_sem]; rfl) ?_
        refine pl_skip (i := 3) rfl (by kernel_rfl) (by kernel_rfl) (by kernel_rfl) (by kernel_rfl) hS.out ?_
        apply Exists.intro
        refine And.intro (by simp [Act.put, go_sem]; rfl) ?_
        refine pl_skip (i := 4) rfl (by kernel_rfl) (by kernel_rfl) (by kernel_rfl) (by kernel_rfl) hS.out ?_
        apply Exists.intro
        refine And.intro (by simp [Act.put, go_sem]; rfl) ?_
        refine pl_skip (i := 5) rfl (by kernel_rfl) (by kernel_rfl) (by kernel_rfl) (by kernel_rfl) hS.out ?_
        apply Exists.intro
        refine And.intro (by simp [Act.put, go_sem]; rfl) ?_
        refine pl_skip (i := 6) rfl (by kernel_rfl) (by kernel_rfl) (by kernel_rfl) (by kernel_rfl) hS.out ?_
        apply Exists.intro
        refine And.intro (by simp [Act.put, go_sem]; rfl) ?_
        refine pl_skip (i := 7) rfl (by kernel_rfl) (by kernel_rfl) (by kernel_rfl) (by kernel_rfl) hS.out ?_
        apply Exists.intro
        refine And.intro (by simp [Act.put, go_sem]; rfl) ?_
        refine pl_skip (i := 8) rfl (by kernel_rfl) (by kernel_rfl) (by kernel_rfl) (by kernel_rfl) hS.out ?_
        apply Exists.intro
        refine And.intro (by simp [Act.put, go_sem]; rfl) ?_
        refine pl_skip (i := 9) rfl (by kernel_rfl) (by kernel_rfl) (by kernel_rfl) (by kernel_rfl) hS.out ?_
        apply Exists.intro
        refine And.intro (by simp [Act.put, go_sem]; rfl) ?_
        refine pl_skip (i := 10) rfl (by kernel_rfl) (by kernel_rfl) (by kernel_rfl) (by kernel_rfl) hS.out ?_
        apply Exists.intro
        refine And.intro (by simp [Act.put, go_sem]; rfl) ?_
        refine pl_skip (i := 11) rfl (by kernel_rfl) (by kernel_rfl) (by kernel_rfl) (by kernel_rfl) hS.out ?_
        apply Exists.intro
        refine And.intro (by simp [Act.put, go_sem]; rfl) ?_
        refine pl_skip (i := 12) rfl (by kernel_rfl) (by kernel_rfl) (by kernel_rfl) (by kernel_rfl) hS.out ?_
        apply Exists.intro
        refine And.intro (by simp [Act.put, go_sem]; rfl) ?_
        refine pl_skip (i := 13) rfl (by kernel_rfl) (by kernel_rfl) (by kernel_rfl) (by kernel_rfl) hS.out ?_
        apply Exists.intro
        refine And.intro (by simp [Act.put, go_sem]; rfl) ?_
        refine pl_skip (i := 14) rfl (by kernel_rfl) (by kernel_rfl) (by kernel_rfl) (by kernel_rfl) hS.out ?_
        apply Exists.intro
        refine And.intro (by simp [Act.put, go_sem]; rfl) ?_
        refine pl_take (i := 15) 38 rfl rfl rfl (by kernel_rfl) (by kernel_rfl) (by kernel_rfl) (by simp [Act.put]) hS.out ?_
        apply Exists.intro
        refine And.intro (fun w' hS' => ?_) ?_
        · clear hS'
          go_wp2
          first
            | exact ⟨trivial, rfl⟩
            | exact rfl
        refine pl_take (i := 16) 5 rfl rfl rfl (by kernel_rfl) (by kernel_rfl) (by kernel_rfl) (by simp [Act.put]) hS.out ?_
        apply Exists.intro
        refine And.intro (fun w' hS' => ?_) ?_
        · clear hS'
          go_wp2
          first
            | exact ⟨trivial, rfl⟩
            | exact rfl
        refine pl_done (by kernel_rfl) ?_
        clear hS
        go_wp2
        go_roundw
        case rel => exact ⟨BD.out, j + 1, HJ.out, by go_num, by rw [step.out, HQ.out]; rfl⟩
        case measure => have := HJ.out; simp only [RowKit.intOf]; omega
      · have HQ := Lib.hid hq
        clear hq
        obtain ⟨E, hE⟩ : ∃ E, E = decide (b = b2) := ⟨_, rfl⟩
        rw [← hE] at EQ
        have HE := Lib.hid hE
        clear hE
        go_wp2_with fail
        refine pl_start 17 rfl (fun w' => w'.cell? ⟨D, 1 + j, none⟩ = some (.slice a1 b.length c1) ∧ w'.cell? ⟨D2, 1 + j, none⟩ = some (.slice a2 b2.length c2)) (by kernel_rfl) ?_
        refine pl_take (i := 0) 23 rfl rfl rfl (by kernel_rfl) (by kernel_rfl) (by kernel_rfl) (by simp [Act.put]) hS.out ?_
        apply Exists.intro
        refine And.intro (fun w' hS' => ?_) ?_
        · clear hS'
          go_wp2
          first
            | exact ⟨trivial, rfl⟩
            | exact rfl
        refine pl_take (i := 1) 24 rfl rfl rfl (by kernel_rfl) (by kernel_rfl) (by kernel_rfl) (by simp [Act.put]) hS.out ?_
        apply Exists.intro
        refine And.intro (fun w' hS' => ?_) ?_
        · clear hS'
          go_wp2
          first
            | exact ⟨trivial, rfl⟩
            | exact rfl
        refine pl_take (i := 2) 25 rfl rfl rfl (by kernel_rfl) (by kernel_rfl) (by kernel_rfl) (by simp [Act.put]) hS.out ?_
        apply Exists.intro
        refine And.intro (fun w' hS' => ?_) ?_
        · refine wpList_unguard' rfl ?_
          clear hS'
          go_wp2
          first
            | exact ⟨trivial, rfl⟩
            | exact rfl
        refine pl_take (i := 3) 26 rfl rfl rfl (by kernel_rfl) (by kernel_rfl) (by kernel_rfl) (by simp [Act.put]) hS.out ?_
        apply Exists.intro
        refine And.intro (fun w' hS' => ?_) ?_
        · refine wpList_unguard' rfl ?_
          clear hS'
          go_wp2
          first
            | exact ⟨trivial, rfl⟩
            | exact rfl
        refine pl_take (i := 4) 27 rfl rfl rfl (by kernel_rfl) (by kernel_rfl) (by kernel_rfl) (by simp [Act.put]) hS.out ?_
        apply Exists.intro
        refine And.intro (fun w' hS' => ?_) ?_
        · refine wpList_unguard' rfl ?_
          clear hS'
          go_wp2
          first
            | exact ⟨trivial, rfl⟩
            | exact rfl
        refine pl_take (i := 5) 28 rfl rfl rfl (by kernel_rfl) (by kernel_rfl) (by kernel_rfl) (by simp [Act.put]) hS.out ?_
        apply Exists.intro
        refine And.intro (fun w' hS' => ?_) ?_
        · refine wpList_unguard' rfl ?_
          clear hS'
          go_wp2
          first
            | exact ⟨trivial, rfl⟩
            | exact rfl
        refine pl_take (i := 6) 29 rfl rfl rfl (by kernel_rfl) (by kernel_rfl) (by kernel_rfl) (by simp [Act.put]) hS.out ?_
        apply Exists.intro
        refine And.intro (fun w' hS' => ?_) ?_
        · refine wpList_unguard' rfl ?_
          clear hS'
          go_wp2
          first
            | exact ⟨trivial, rfl⟩
            | exact rfl
        refine pl_take (i := 7) 30 rfl rfl rfl (by kernel_rfl) (by kernel_rfl) (by kernel_rfl) (by simp [Act.put]) hS.out ?_
        apply Exists.intro
        refine And.intro (fun w' hS' => ?_) ?_
        · refine wpList_unguard' rfl ?_
          have hc := hS'.1
          clear hS'
          go_wp2
          first
            | exact ⟨trivial, rfl⟩
            | exact rfl
        refine pl_take (i := 8) 31 rfl rfl rfl (by kernel_rfl) (by kernel_rfl) (by kernel_rfl) (by simp [Act.put]) hS.out ?_
        apply Exists.intro
        refine And.intro (fun w' hS' => ?_) ?_
        · refine wpList_unguard' rfl ?_
          clear hS'
          go_wp2
          first
            | exact ⟨trivial, rfl⟩
            | exact rfl
        refine pl_take (i := 9) 32 rfl rfl rfl (by kernel_rfl) (by kernel_rfl) (by kernel_rfl) (by simp [Act.put]) hS.out ?_
        apply Exists.intro
        refine And.intro (fun w' hS' => ?_) ?_
        · refine wpList_unguard' rfl ?_
          clear hS'
          go_wp2
          first
            | exact ⟨trivial, rfl⟩
            | exact rfl
        refine pl_take (i := 10) 33 rfl rfl rfl (by kernel_rfl) (by kernel_rfl) (by kernel_rfl) (by simp [Act.put]) hS.out ?_
        apply Exists.intro
        refine And.intro (fun w' hS' => ?_) ?_
        · refine wpList_unguard' rfl ?_
          clear hS'
          go_wp2
          first
            | exact ⟨trivial, rfl⟩
            | exact rfl
        refine pl_take (i := 11) 34 rfl rfl rfl (by kernel_rfl) (by kernel_rfl) (by kernel_rfl) (by simp [Act.put]) hS.out ?_
        apply Exists.intro
        refine And.intro (fun w' hS' => ?_) ?_
        · refine wpList_unguard' rfl ?_
          clear hS'
          go_wp2
          first
            | exact ⟨trivial, rfl⟩
            | exact rfl
        refine pl_take (i := 12) 35 rfl rfl rfl (by kernel_rfl) (by kernel_rfl) (by kernel_rfl) (by simp [Act.put]) hS.out ?_
        apply Exists.intro
        refine And.intro (fun w' hS' => ?_) ?_
        · refine wpList_unguard' rfl ?_
          clear hS'
          go_wp2
          first
            | exact ⟨trivial, rfl⟩
            | exact rfl
        refine pl_take (i := 13) 36 rfl rfl rfl (by kernel_rfl) (by kernel_rfl) (by kernel_rfl) (by simp [Act.put]) hS.out ?_
        apply Exists.intro
        refine And.intro (fun w' hS' => ?_) ?_
        · refine wpList_unguard' rfl ?_
          have hc := hS'.2
          clear hS'
          go_wp2
          first
            | exact ⟨trivial, rfl⟩
            | exact rfl
        refine pl_heavy (i := 14) rfl (by kernel_rfl) ?_
        refine wpList_unguard' rfl ?_
        go_wp2_with fail
        refine EQ.out.mono ?_
        rintro e w5 ⟨rfl, b5⟩
        have B5 : Hid (Below w.heap.size w w5) := Lib.hid (BD.out.trans (b5.mono BD.out.size))
        have h1 := (H1.out.fresh B5.out).cd
        have hS5 : Hid (w5.cell? ⟨D, 1 + j, none⟩ = some (.slice a1 b.length c1) ∧ w5.cell? ⟨D2, 1 + j, none⟩ = some (.slice a2 b2.length c2)) := Lib.hid ⟨cell_kept hS.out.1 b5, cell_kept hS.out.2 b5⟩
        clear hS b5 h1
        have hS := hS5
        clear hS5
        go_wp2
        refine And.intro hS.out ?_
        refine pl_take (i := 15) 38 rfl rfl rfl (by kernel_rfl) (by kernel_rfl) (by kernel_rfl) (by simp [Act.put]) hS.out ?_
        apply Exists.intro
        refine And.intro (fun w' hS' => ?_) ?_
        · clear hS'
          go_wp2
          first
            | exact ⟨trivial, rfl⟩
            | exact rfl
        refine pl_take (i := 16) 5 rfl rfl rfl (by kernel_rfl) (by kernel_rfl) (by kernel_rfl) (by simp [Act.put]) hS.out ?_
        apply Exists.intro
        refine And.intro (fun w' hS' => ?_) ?_
        · clear hS'
          go_wp2
          first
            | exact ⟨trivial, rfl⟩
            | exact rfl
        refine pl_done (by kernel_rfl) ?_
        clear hS
        go_wp2
        go_roundw
        case rel => exact ⟨B5.out, j + 1, HJ.out, by go_num, by rw [step.out, HQ.out, HE.out]; rfl⟩
        case measure => have := HJ.out; simp only [RowKit.intOf]; omega
    · have ij : ¬ ((j : Int) < 16) := by omega
      obtain rfl : j = 16 := by omega
      clear hj hjn
      go_wp2
      go_ret
      refine ⟨?_, HB.out⟩
      rw [HR.out, List.take_of_length_le (by rw [HL.out.1]; exact Nat.le_refl _), List.take_of_length_le (by rw [HL.out.2]; exact Nat.le_refl _)]
      rfl

end Go.Proofs.Ytbbbgpdhdlknjaa
