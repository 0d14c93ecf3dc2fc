/- Merkle: lists of hashes compared; errors' numbers: the walks. -/
import Derived.Test.YtbabjepblakboaaYm
namespace Go.Proofs.Ytbabjepblakboaa
set_option linter.unusedVariables false
set_option linter.unusedSimpArgs false
open Go.RowKit Go.Lib

theorem ynum_any (w : World) (n : Int) :
    Calls Try.prog 51 #[.int .i64 n] w fun e w' => e = .returned (.int .i64 n) ∧ w' = w := by
  go_enter Try.func51, Try.ntmps51
  go_wp2
  go_ret
  exact ⟨rfl, rfl⟩

theorem take_next {l m : List Bs} {k : Nat} {x y : Bs} (hx : l[k]? = some x) (hy : m[k]? = some y) (h : l.take k = m.take k) (hxy : x = y) : l.take (k + 1) = m.take (k + 1) := by
  rw [List.take_add_one, List.take_add_one, hx, hy, h, hxy]

set_option maxRecDepth 100000 in
set_option maxHeartbeats 1000000 in
theorem ysame_any (w : World) (v u : Value) (l m : List Bs) (hv : Hs w v l) (hu : Hs w u m) :
    Calls Try.prog 53 #[v, u] w fun e w' => e = .returned (.bool (decide (l = m))) ∧ Below w.heap.size w w' := by
  obtain ⟨a0, c0, rfl⟩ := hv.slice
  obtain ⟨a1, c1, rfl⟩ := hu.slice
  obtain ⟨N, hN⟩ : ∃ N, N = l.length := ⟨_, rfl⟩
  obtain ⟨M, hM⟩ : ∃ M, M = m.length := ⟨_, rfl⟩
  obtain ⟨R, hR⟩ : ∃ R, R = decide (l = m) := ⟨_, rfl⟩
  rw [← hR]
  by_cases hNM : N = M
  · have HR := Lib.hid hR
    have HN := Lib.hid (And.intro hN hM)
    rw [← hN] at hv ⊢
    rw [← hM, ← hNM] at hu ⊢
    have HM := Lib.hid hNM
    have HV := Lib.hid hv
    have HU := Lib.hid hu
    have bN : (N : Int) ≤ maxLen := by
      have h1 : N ≤ maxLen := by
        have := hv.2.2
        rcases this with ⟨he, _⟩ | ⟨ad, c', he, h2, h3, _⟩
        · simp only [Value.slice.injEq] at he
          omega
        · simp only [Value.slice.injEq] at he
          omega
      omega
    have bN' : (N : Int) ≤ 9223372036854775807 := by unfold maxLen at bN; omega
    clear hR hN hM hNM hv hu bN
    go_enter Try.func53, Try.ntmps53
    go_wp2
    go_loopw [5] (fun v5 wr => Below w.heap.size w wr ∧ ∃ k : Nat, k ≤ N ∧ v5 = .int .i64 (k : Int) ∧ l.take k = m.take k)
      (fun v _ => N - (intOf v).toNat)
    case atStart => exact ⟨Below.refl _ _, 0, by omega, rfl, rfl⟩
    case round =>
      obtain ⟨hb, k, hk, rfl, ht⟩ := hrel
      have HB := Lib.hid hb
      have HT := Lib.hid ht
      clear hb ht
      by_cases hlt : k < N
      · obtain ⟨x, hx⟩ : ∃ x, l[k]? = some x := ⟨_, List.getElem?_eq_getElem (by rw [← HN.out.1]; exact hlt)⟩
        obtain ⟨y, hy⟩ : ∃ y, m[k]? = some y := ⟨_, List.getElem?_eq_getElem (by rw [← HN.out.2, ← HM.out]; exact hlt)⟩
        obtain ⟨ad, c, he⟩ := HV.out.isSome HN.out.1.symm (by omega)
        simp only [Value.slice.injEq, true_and] at he
        obtain ⟨rfl, rfl⟩ := he
        obtain ⟨bd, d, he⟩ := HU.out.isSome (n := N) (by rw [HM.out]; exact HN.out.2.symm) (by omega)
        simp only [Value.slice.injEq, true_and] at he
        obtain ⟨rfl, rfl⟩ := he
        have HX := Lib.hid (And.intro hx (And.intro hy (And.intro (HV.out.1.get hx) (HU.out.1.get hy))))
        have ik : (k : Int) < (N : Int) := by omega
        have HK := Lib.hid hlt
        have hS : Hid (Hs wr.drew (.slice (some ad) N c0) l ∧ Hs wr.drew (.slice (some bd) N c1) m) := Lib.hid ⟨HV.out.fresh HB.out.drew, HU.out.fresh HB.out.drew⟩
        clear hx hy hlt hk
        go_wp2_with fail
        refine pl_start 9 rfl (fun w' => Hs w' (.slice (some ad) N c0) l ∧ Hs w' (.slice (some bd) N c1) m) (by kernel_rfl) ?_
        refine pl_take (i := 0) 17 rfl rfl rfl (by kernel_rfl) (by kernel_rfl) (by kernel_rfl) (by simp [Act.put]) hS.out ?_
        apply Exists.intro
        refine And.intro (fun w' hS' => ?_) ?_
        · go_wp2
          exact ⟨trivial, rfl⟩
        refine pl_take (i := 1) 18 rfl rfl rfl (by kernel_rfl) (by kernel_rfl) (by kernel_rfl) (by simp [Act.put]) hS.out ?_
        apply Exists.intro
        refine And.intro (fun w' hS' => ?_) ?_
        · go_wp2
          exact ⟨trivial, rfl⟩
        refine pl_take (i := 2) 19 rfl rfl rfl (by kernel_rfl) (by kernel_rfl) (by kernel_rfl) (by simp [Act.put]) hS.out ?_
        apply Exists.intro
        refine And.intro (fun w' hS' => ?_) ?_
        · clear hS'
          go_wp2
          exact ⟨trivial, rfl⟩
        refine pl_take (i := 3) 20 rfl rfl rfl (by kernel_rfl) (by kernel_rfl) (by kernel_rfl) (by simp [Act.put]) hS.out ?_
        apply Exists.intro
        refine And.intro (fun w' hS' => ?_) ?_
        · refine wpList_load_agg rfl 24 (.tmp 19) rfl (ad.add (k * 32)) rfl (bvs x) _ (hS'.1.elem' HX.out.1) Try.underlying24 rfl (by rw [bvs_length, HX.out.2.2.1]; exact infoHash) ?_
          go_wp2
          exact ⟨trivial, rfl⟩
        refine pl_take (i := 4) 21 rfl rfl rfl (by kernel_rfl) (by kernel_rfl) (by kernel_rfl) (by simp [Act.put]) hS.out ?_
        apply Exists.intro
        refine And.intro (fun w' hS' => ?_) ?_
        · go_wp2
          exact ⟨trivial, rfl⟩
        refine pl_take (i := 5) 22 rfl rfl rfl (by kernel_rfl) (by kernel_rfl) (by kernel_rfl) (by simp [Act.put]) hS.out ?_
        apply Exists.intro
        refine And.intro (fun w' hS' => ?_) ?_
        · go_wp2
          exact ⟨trivial, rfl⟩
        refine pl_take (i := 6) 23 rfl rfl rfl (by kernel_rfl) (by kernel_rfl) (by kernel_rfl) (by simp [Act.put]) hS.out ?_
        apply Exists.intro
        refine And.intro (fun w' hS' => ?_) ?_
        · clear hS'
          go_wp2
          exact ⟨trivial, rfl⟩
        refine pl_take (i := 7) 24 rfl rfl rfl (by kernel_rfl) (by kernel_rfl) (by kernel_rfl) (by simp [Act.put]) hS.out ?_
        apply Exists.intro
        refine And.intro (fun w' hS' => ?_) ?_
        · refine wpList_load_agg rfl 24 (.tmp 23) rfl (bd.add (k * 32)) rfl (bvs y) _ (hS'.2.elem' HX.out.2.1) Try.underlying24 rfl (by rw [bvs_length, HX.out.2.2.2]; exact infoHash) ?_
          go_wp2
          exact ⟨trivial, rfl⟩
        refine pl_take (i := 8) 25 rfl rfl rfl (by kernel_rfl) (by kernel_rfl) (by kernel_rfl) (by simp [Act.put]) hS.out ?_
        apply Exists.intro
        refine And.intro (fun w' hS' => ?_) ?_
        · refine wpList_bin rfl .neq 24 24 (.tmp 20) (.tmp 24) rfl (.bool (x != y)) (eqGuard_agg _ _ _ _ _ _ _ (by kernel_rfl)) (hash_ne w' x y HX.out.2.2.1 HX.out.2.2.2) ?_
          clear hS'
          go_wp2
          exact ⟨trivial, rfl⟩
        refine pl_done (by kernel_rfl) ?_
        have B1 : Hid (Below w.heap.size w wr.drew) := HB.out.drew
        cases hxy : (x != y)
        · have e1 : x = y := by simpa [bne] using hxy
          have HT' := Lib.hid (take_next HX.out.1 HX.out.2.1 HT.out e1)
          clear hxy e1
          go_wp2
          go_roundw
          case rel => exact ⟨B1.out, k + 1, HK.out, by go_num, HT'.out⟩
          case measure => simp only [intOf]; have := HK.out; omega
        · have e1 : x ≠ y := by simpa [bne] using hxy
          have hf : Hid (R = false) := Lib.hid (by
            rw [HR.out, decide_eq_false_iff_not]
            intro e
            rw [e, HX.out.2.1] at HX
            have := HX.out.1
            simp at this
            exact e1 this.symm)
          clear hxy e1
          go_wp2
          go_ret
          exact ⟨by rw [hf.out]; rfl, B1.out⟩
      · have ik : ¬ ((k : Int) < (N : Int)) := by omega
        have hkN : k = N := by omega
        have ht' : Hid (R = true) := Lib.hid (by
          have h1 := HT.out
          rw [List.take_of_length_le (by have := HN.out.1; omega), List.take_of_length_le (by have := HN.out.2; have := HM.out; omega)] at h1
          rw [HR.out, decide_eq_true h1])
        clear hkN
        go_wp2
        go_ret
        exact ⟨by rw [ht'.out]; rfl, HB.out⟩
  · have hf : Hid (R = false) := Lib.hid (by
      rw [hR, decide_eq_false_iff_not]
      intro e
      rw [e] at hN
      omega)
    rw [← hN, ← hM]
    have i1 : ¬ ((N : Int) = (M : Int)) := by omega
    clear hv hu hR hN hM hNM
    go_enter Try.func53, Try.ntmps53
    go_wp2
    go_ret
    exact ⟨by rw [hf.out]; rfl, Below.refl _ _⟩

end Go.Proofs.Ytbabjepblakboaa
