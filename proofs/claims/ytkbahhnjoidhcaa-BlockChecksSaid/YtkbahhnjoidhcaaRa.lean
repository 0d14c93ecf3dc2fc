/- Contracts of the reference of layer 1. -/
import Derived.Test.YtkbahhnjoidhcaaWb
import Derived.Test.YtkbahhnjoidhcaaG1
namespace Go.Proofs.Ytkbahhnjoidhcaa
set_option linter.unusedVariables false
set_option linter.unusedSimpArgs false
open Go.RowKit

set_option maxHeartbeats 400000 in
theorem rsize_any (n : Int) (w : World) :
    Calls Try.prog 105 #[.int .i64 n] w fun e w' => e = .returned (.bool (okSize n)) ∧ w = w' := by
  go_enter Try.func105, Try.ntmps105
  go_wp2
  all_goals
    go_ret
    exact ⟨by simp [okSize, *], rfl⟩

theorem rput_no (w : World) (m s : Int) (hs : okSize s = false) :
    Calls Try.prog 88 #[.int .u64 m, .int .i64 s] w fun e w' => e = .returned (.tuple #[.slice none 0 0, .bool false]) ∧ w = w' := by
  go_enter Try.func88, Try.ntmps88
  go_wp2_with fail
  refine (rsize_any s w).mono ?_
  rintro e w' ⟨rfl, rfl⟩
  rw [hs]
  clear hs
  go_wp2
  go_ret2
  exact ⟨rfl, rfl⟩

set_option maxRecDepth 100000 in
set_option maxHeartbeats 400000 in
theorem rput_yes (w : World) (m : Nat) (hm : m < 18446744073709551616) (s : Int) (hs : okSize s = true) :
    Calls Try.prog 88 #[.int .u64 (m : Int), .int .i64 s] w fun e w' => ∃ v', e = .returned (.tuple #[v', .bool (decide (m < 2 ^ (8 * s.toNat)))]) ∧
      w'.ownsRow w.heap.size 5 1 v' s.toNat (bvs (le m s.toNat)) ∧ Below w.heap.size w w' := by
  obtain ⟨i0, hi, hz0, hz1, hz2⟩ := info_parts infoU8
  go_enter Try.func88, Try.ntmps88
  go_wp2_with fail
  refine (rsize_any s w).mono ?_
  rintro e w' ⟨rfl, rfl⟩
  rw [hs]
  obtain ⟨k8, rfl, hk8⟩ := okSize_nat hs
  clear hs
  go_wp2
  go_loopw [0, 6, 7] (fun v0 v6 v7 wr => ∃ k : Nat, k ≤ k8 ∧ v7 = .int .i64 (k : Int) ∧ v0 = .int .u64 ((m / 2 ^ (8 * k) : Nat) : Int) ∧ wr.ownsRow w.heap.size 5 1 v6 k (bvs (le m k)) ∧ Below w.heap.size w wr)
    (fun _ _ v _ => k8 - (intOf v).toNat)
  case atStart => exact ⟨0, Nat.zero_le _, rfl, by simp, World.ownsRow_nil _ _ _ _, Below.refl _ _⟩
  case round =>
    obtain ⟨k, hk, rfl, rfl, hown, hbl⟩ := hrel
    have hsz := hbl.size
    have Hbl := Lib.hid hbl; clear hbl
    have hq : m / 2 ^ (8 * k) < 18446744073709551616 := Nat.lt_of_le_of_lt (Nat.div_le_self _ _) hm
    obtain ⟨q, hq'⟩ : ∃ q, q = m / 2 ^ (8 * k) := ⟨_, rfl⟩
    rw [← hq'] at hq ⊢
    have Hq := Lib.hid hq'; clear hq'
    go_wp2_with (at_builtin; apply Stop.mk)
    · refine Stop.go ?_
      have hb1 := BB.new wr 5 [UInt8.ofNat q]
      have hr := hb1.rdAll (by simp [maxLen])
      have hbx : Below w.heap.size w (wr.alloc (.cells (bvs [UInt8.ofNat q]).toArray 5)) := Hbl.out.alloc (by omega) _
      simp only [bvs, List.map_cons, List.map_nil, bv_ofNat, List.length_cons, List.length_nil, Nat.zero_add] at hr hbx
      refine wpList_append_rd _ rfl (.tmp 16) (.tmp 20) 42 rfl w.heap.size 5 i0 (.int .u8 0) 1 1 Try.underlying42 hi hz0 hz1 hz2 rfl (by decide) u6 k (bvs (le m k)) rfl (hown.alloc _) _ 1 _ rfl hr ?_ (by unfold maxLen; omega) (by omega) (by simp; omega) ?_
      · intro u hu; simp at hu; subst hu; rfl
      intro v' w1 hown' hgr _ _
      have Hb2 : Hid (Below w.heap.size w w1) := hbx.grown hgr (by simp; omega) (fun j hj => (hown.lt j hj).1)
      clear hgr hb1 hr hbx
      have hlt : k < k8 := by assumption
      go_wp2
      go_roundw
      case rel =>
        refine ⟨k + 1, by omega, by go_num, ?_, ?_, Hb2.out⟩
        · rw [Hq.out]
          have : m / 2 ^ (8 * k) / 256 = m / 2 ^ (8 * (k + 1)) := by
            rw [Nat.div_div_eq_div_mul, Nat.mul_add, Nat.pow_add]
          rw [← this]; simp
        · rw [le, bvs_append, ← Hq.out]
          simpa [bvs, bv_ofNat] using hown'
      case measure => simp [intOf]; omega
    · have hks : k = k8 := by omega
      subst hks
      go_ret2
      refine ⟨u6, ?_, by simpa using hown, Hbl.out⟩
      have e1 : ((q : Int) == 0) = decide (m < 2 ^ (8 * k)) := by
        have hp : 0 < 2 ^ (8 * k) := Nat.two_pow_pos _
        have := Hq.out
        rw [Bool.eq_iff_iff]
        simp only [beq_iff_eq, decide_eq_true_eq]
        rw [this]
        constructor
        · intro h
          have h' : m / 2 ^ (8 * k) = 0 := by omega
          rcases (Nat.div_eq_zero_iff).1 h' with h2 | h2
          · omega
          · exact h2
        · intro h; rw [Nat.div_eq_of_lt h]; rfl
      simp [e1]

set_option maxRecDepth 100000 in
set_option maxHeartbeats 400000 in
theorem rnum_any (w : World) (m : Nat) (hm : m < 18446744073709551616) (s : Int) (hs : okSize s = true) :
    Calls Try.prog 55 #[.int .u64 (m : Int), .int .i64 s] w fun e w' => ∃ v', e = .returned v' ∧
      w'.ownsRow w.heap.size 5 1 v' s.toNat (bvs (le m s.toNat)) ∧ Below w.heap.size w w' := by
  go_enter Try.func55, Try.ntmps55
  go_wp2_with fail
  refine (rput_yes w m hm s hs).mono ?_
  rintro e w' ⟨v', rfl, h1, h2⟩
  go_wp2
  go_ret
  exact ⟨v', rfl, h1, h2⟩

set_option maxRecDepth 100000 in
set_option maxHeartbeats 400000 in
theorem rblob_any (w : World) (v : Value) (ys : List UInt8) (hr : Rd w 1 v ys.length (bvs ys)) (hn : ys.length ≤ 1099511627776) :
    Calls Try.prog 56 #[v] w fun e w' => ∃ v', e = .returned v' ∧
      w'.ownsRow w.heap.size 5 1 v' (4 + ys.length) (bvs (le ys.length 4 ++ ys)) ∧ Below w.heap.size w w' := by
  obtain ⟨i0, hi, hz0, hz1, hz2⟩ := info_parts infoU8
  obtain ⟨a, c, rfl⟩ := hr.slice
  go_enter Try.func56, Try.ntmps56
  go_wp2_with fail
  refine (rnum_any w ys.length (by omega) 4 rfl).mono ?_
  rintro e w1 ⟨v1, rfl, h1, h2⟩
  have hr1 := hr.fresh h2
  have hsz := h2.size
  have H2 := Lib.hid h2; clear h2
  go_wp2_with (at_builtin; apply Stop.mk)
  refine Stop.go ?_
  refine wpList_append_rd _ rfl (.tmp 6) (.tmp 7) 42 rfl w.heap.size 5 i0 (.int .u8 0) 1 1 Try.underlying42 hi hz0 hz1 hz2 rfl (by decide) v1 4 (bvs (le ys.length 4)) rfl h1 _ ys.length _ rfl hr1 (bvs_one _) (by unfold maxLen; omega) (by omega) hsz ?_
  intro v' w2 hown' hgr _ _
  have Hb2 : Hid (Below w.heap.size w w2) := H2.out.grown hgr (by omega) (fun j hj => (h1.lt j hj).1)
  clear hgr
  go_wp2
  go_ret
  exact ⟨v', rfl, by rw [bvs_append]; exact hown', Hb2.out⟩

end Go.Proofs.Ytkbahhnjoidhcaa
