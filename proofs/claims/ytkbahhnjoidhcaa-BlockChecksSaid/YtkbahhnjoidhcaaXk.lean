/- The reference's SameHeader, and Same of blocks: the walks. -/
import Derived.Test.YtkbahhnjoidhcaaXi
import Derived.Test.YtkbahhnjoidhcaaXj
namespace Go.Proofs.Ytkbahhnjoidhcaa
set_option linter.unusedVariables false
set_option linter.unusedSimpArgs false
open Go.RowKit

theorem hd_cell {w : World} {b : Nat} {x : HdD} {v : Value} (h : At w b 0 (hdC x v)) : w.cell? ⟨b, 0, none⟩ = some v := by
  unfold hdC at h
  exact h.pre.cell0'

theorem bl_cell {w : World} {b : Nat} {x : BlD} {v t : Value} (h : At w b 0 (blC x v t)) (hx : HdOk x.hd) : w.cell? ⟨b, 130, none⟩ = some t := (h.post' (n := 130) (o' := 130) (hdC_length hx) rfl).cell0'

set_option maxRecDepth 100000 in
set_option maxHeartbeats 4000000 in
theorem rsamehd_any (w : World) (x y : HdD) (u v : Value) (hx : HdOk x) (hy : HdOk y) (hu : Hs w u x.par) (hv : Hs w v y.par) :
    Calls Try.prog 13 #[.agg (hdC x u).toArray, .agg (hdC y v).toArray] w fun e w' => e = .returned (.bool (decide (x = y))) ∧ Below w.heap.size w w' := by
  obtain ⟨R, hR⟩ : ∃ R, R = decide (x = y) := ⟨_, rfl⟩
  rw [← hR]
  rw [hd_split] at hR
  obtain ⟨a0, c0, rfl⟩ := hu.slice
  obtain ⟨a1, c1, rfl⟩ := hv.slice
  obtain ⟨N, hN⟩ : ∃ N, N = x.par.length := ⟨_, rfl⟩
  obtain ⟨M, hM⟩ : ∃ M, M = y.par.length := ⟨_, rfl⟩
  rw [← hN] at hu ⊢
  rw [← hM] at hv ⊢
  have HR := Lib.hid hR
  by_cases hNM : ¬ (N = M)
  · have hf : Hid (R = false) := Lib.hid (by
      rw [hR]
      have : decide (x.par = y.par) = false := decide_eq_false (fun e => hNM (by rw [hN, hM, e]))
      rw [this, Bool.false_and])
    have i1 : ¬ ((N : Int) = (M : Int)) := by omega
    obtain ⟨X, hX⟩ : ∃ X, X = hdC x (.slice a0 N c0) := ⟨_, rfl⟩
    obtain ⟨Y, hY⟩ : ∃ Y, Y = hdC y (.slice a1 M c1) := ⟨_, rfl⟩
    rw [← hX, ← hY]
    have HXY := Lib.hid (And.intro hX (And.intro hY (And.intro hx hy)))
    clear hR hX hY hx hy hu hv hN hM hNM
    go_enter Try.func13, Try.ntmps13
    go_wp2_with (with_reducible refine stopAt 7 ?_)
    refine Stop.go ?_
    obtain ⟨w1, h1, k1, b1, s1⟩ := alloc_cb w 27 X
    obtain ⟨w2, h2, k2, b2, s2⟩ := alloc_cb w1 27 Y
    change wpList _ _ _ _ _ ((w.alloc (.cells X.toArray 27)).alloc (.cells Y.toArray 27))
    rw [← h1, ← h2]
    rw [s1] at s2 k2
    have BB := Lib.hid (b1.tr b2)
    have A1 : At w2 w.heap.size 0 (hdC x (.slice a0 N c0)) := by rw [← HXY.out.1]; exact At.block (k1.fresh b2)
    have A2 : At w2 (w.heap.size + 1) 0 (hdC y (.slice a1 M c1)) := by rw [← HXY.out.2.1]; exact At.block k2
    have hc1 := hd_cell A1
    have hc2 := hd_cell A2
    have AA := Lib.hid (And.intro (hd_at A1 HXY.out.2.2.1) (hd_at A2 HXY.out.2.2.2))
    have KK := Lib.hid (And.intro A1 A2)
    clear h1 h2 k1 k2 b1 b2 s1 s2 A1 A2
    go_wp2
    go_ret
    exact ⟨by rw [hf.out]; rfl, BB.out⟩
  replace hNM : N = M := Decidable.not_not.1 hNM
  subst hNM
  have HN := Lib.hid (And.intro hN hM)
  have bN' : (N : Int) ≤ 9223372036854775807 := by
    have h9 := hu.2
    rw [← hN] at h9
    exact rd_small h9
  have HU := Lib.hid hu
  have HV := Lib.hid hv
  obtain ⟨X, hX⟩ : ∃ X, X = hdC x (.slice a0 N c0) := ⟨_, rfl⟩
  obtain ⟨Y, hY⟩ : ∃ Y, Y = hdC y (.slice a1 N c1) := ⟨_, rfl⟩
  rw [← hX, ← hY]
  have HXY := Lib.hid (And.intro hX (And.intro hY (And.intro hx hy)))
  clear hR hX hY hx hy hu hv hN hM
  go_enter Try.func13, Try.ntmps13
  go_wp2_with (with_reducible refine stopAt 7 ?_)
  refine Stop.go ?_
  obtain ⟨w1, h1, k1, b1, s1⟩ := alloc_cb w 27 X
  obtain ⟨w2, h2, k2, b2, s2⟩ := alloc_cb w1 27 Y
  change wpList _ _ _ _ _ ((w.alloc (.cells X.toArray 27)).alloc (.cells Y.toArray 27))
  rw [← h1, ← h2]
  rw [s1] at s2 k2
  have BB := Lib.hid (b1.tr b2)
  have A1 : At w2 w.heap.size 0 (hdC x (.slice a0 N c0)) := by rw [← HXY.out.1]; exact At.block (k1.fresh b2)
  have A2 : At w2 (w.heap.size + 1) 0 (hdC y (.slice a1 N c1)) := by rw [← HXY.out.2.1]; exact At.block k2
  have hc1 := hd_cell A1
  have hc2 := hd_cell A2
  have AA := Lib.hid (And.intro (hd_at A1 HXY.out.2.2.1) (hd_at A2 HXY.out.2.2.2))
  have KK := Lib.hid (And.intro A1 A2)
  clear h1 h2 k1 k2 b1 b2 s1 s2 A1 A2
  go_wp2_with (with_reducible refine stopAt 15 ?_)
  refine Stop.go ?_
  refine wpList_unguard' rfl ?_
  refine wpList_load_agg rfl 24 (.tmp 14) rfl (⟨w.heap.size, 1, none⟩) rfl (bvs x.root) _ (AA.out.1.2.1.load) Try.underlying24 rfl (by rw [bvs_length, HXY.out.2.2.1.1]; exact infoHash) ?_
  go_wp2_with (with_reducible refine stopAt 17 ?_)
  refine Stop.go ?_
  refine wpList_unguard' rfl ?_
  refine wpList_load_agg rfl 24 (.tmp 16) rfl (⟨w.heap.size + 1, 1, none⟩) rfl (bvs y.root) _ (AA.out.2.2.1.load) Try.underlying24 rfl (by rw [bvs_length, HXY.out.2.2.2.1]; exact infoHash) ?_
  go_wp2_with (with_reducible refine stopAt 18 ?_)
  refine Stop.go ?_
  refine wpList_unguard' rfl ?_
  refine wpList_bin rfl .neq 24 24 (.tmp 15) (.tmp 17) rfl (.bool (x.root != y.root)) (eqGuard_agg _ _ _ _ _ _ _ (by kernel_rfl)) (hash_ne w2 x.root y.root HXY.out.2.2.1.1 HXY.out.2.2.2.1) ?_
  cases hq1 : (x.root != y.root)
  rotate_left
  · have hf : Hid (R = false) := Lib.hid (by
      have h9 : (x.root == y.root) = false := by rw [bne] at hq1; simpa using hq1
      rw [HR.out, h9]
      simp)
    clear hq1
    go_wp2
    go_ret
    exact ⟨by rw [hf.out]; rfl, BB.out⟩
  have hr1 : Hid ((x.root == y.root) = true) := Lib.hid (by rw [bne] at hq1; simpa using hq1)
  clear hq1
  go_wp2_with (with_reducible refine stopAt 22 ?_)
  refine Stop.go ?_
  refine wpList_unguard' rfl ?_
  refine wpList_load_agg rfl 24 (.tmp 21) rfl (⟨w.heap.size, 33, none⟩) rfl (bvs x.acc) _ (AA.out.1.2.2.1.load) Try.underlying24 rfl (by rw [bvs_length, HXY.out.2.2.1.2.1]; exact infoHash) ?_
  go_wp2_with (with_reducible refine stopAt 24 ?_)
  refine Stop.go ?_
  refine wpList_unguard' rfl ?_
  refine wpList_load_agg rfl 24 (.tmp 23) rfl (⟨w.heap.size + 1, 33, none⟩) rfl (bvs y.acc) _ (AA.out.2.2.2.1.load) Try.underlying24 rfl (by rw [bvs_length, HXY.out.2.2.2.2.1]; exact infoHash) ?_
  go_wp2_with (with_reducible refine stopAt 25 ?_)
  refine Stop.go ?_
  refine wpList_unguard' rfl ?_
  refine wpList_bin rfl .neq 24 24 (.tmp 22) (.tmp 24) rfl (.bool (x.acc != y.acc)) (eqGuard_agg _ _ _ _ _ _ _ (by kernel_rfl)) (hash_ne w2 x.acc y.acc HXY.out.2.2.1.2.1 HXY.out.2.2.2.2.1) ?_
  cases hq2 : (x.acc != y.acc)
  rotate_left
  · have hf : Hid (R = false) := Lib.hid (by
      have h9 : (x.acc == y.acc) = false := by rw [bne] at hq2; simpa using hq2
      rw [HR.out, h9]
      simp)
    clear hq2
    go_wp2
    go_ret
    exact ⟨by rw [hf.out]; rfl, BB.out⟩
  have hr2 : Hid ((x.acc == y.acc) = true) := Lib.hid (by rw [bne] at hq2; simpa using hq2)
  clear hq2
  go_wp2_with (with_reducible refine stopAt 29 ?_)
  refine Stop.go ?_
  refine wpList_unguard' rfl ?_
  refine wpList_load_agg rfl 24 (.tmp 28) rfl (⟨w.heap.size, 65, none⟩) rfl (bvs x.coins) _ (AA.out.1.2.2.2.1.load) Try.underlying24 rfl (by rw [bvs_length, HXY.out.2.2.1.2.2.1]; exact infoHash) ?_
  go_wp2_with (with_reducible refine stopAt 31 ?_)
  refine Stop.go ?_
  refine wpList_unguard' rfl ?_
  refine wpList_load_agg rfl 24 (.tmp 30) rfl (⟨w.heap.size + 1, 65, none⟩) rfl (bvs y.coins) _ (AA.out.2.2.2.2.1.load) Try.underlying24 rfl (by rw [bvs_length, HXY.out.2.2.2.2.2.1]; exact infoHash) ?_
  go_wp2_with (with_reducible refine stopAt 32 ?_)
  refine Stop.go ?_
  refine wpList_unguard' rfl ?_
  refine wpList_bin rfl .neq 24 24 (.tmp 29) (.tmp 31) rfl (.bool (x.coins != y.coins)) (eqGuard_agg _ _ _ _ _ _ _ (by kernel_rfl)) (hash_ne w2 x.coins y.coins HXY.out.2.2.1.2.2.1 HXY.out.2.2.2.2.2.1) ?_
  cases hq3 : (x.coins != y.coins)
  rotate_left
  · have hf : Hid (R = false) := Lib.hid (by
      have h9 : (x.coins == y.coins) = false := by rw [bne] at hq3; simpa using hq3
      rw [HR.out, h9]
      simp)
    clear hq3
    go_wp2
    go_ret
    exact ⟨by rw [hf.out]; rfl, BB.out⟩
  have hr3 : Hid ((x.coins == y.coins) = true) := Lib.hid (by rw [bne] at hq3; simpa using hq3)
  clear hq3
  go_wp2_with (with_reducible refine stopAt 36 ?_)
  refine Stop.go ?_
  refine wpList_unguard' rfl ?_
  refine wpList_load_agg rfl 24 (.tmp 35) rfl (⟨w.heap.size, 97, none⟩) rfl (bvs x.miner) _ (AA.out.1.2.2.2.2.1.load) Try.underlying24 rfl (by rw [bvs_length, HXY.out.2.2.1.2.2.2]; exact infoHash) ?_
  go_wp2_with (with_reducible refine stopAt 38 ?_)
  refine Stop.go ?_
  refine wpList_unguard' rfl ?_
  refine wpList_load_agg rfl 24 (.tmp 37) rfl (⟨w.heap.size + 1, 97, none⟩) rfl (bvs y.miner) _ (AA.out.2.2.2.2.2.1.load) Try.underlying24 rfl (by rw [bvs_length, HXY.out.2.2.2.2.2.2]; exact infoHash) ?_
  go_wp2_with (with_reducible refine stopAt 39 ?_)
  refine Stop.go ?_
  refine wpList_unguard' rfl ?_
  refine wpList_bin rfl .neq 24 24 (.tmp 36) (.tmp 38) rfl (.bool (x.miner != y.miner)) (eqGuard_agg _ _ _ _ _ _ _ (by kernel_rfl)) (hash_ne w2 x.miner y.miner HXY.out.2.2.1.2.2.2 HXY.out.2.2.2.2.2.2) ?_
  cases hq4 : (x.miner != y.miner)
  rotate_left
  · have hf : Hid (R = false) := Lib.hid (by
      have h9 : (x.miner == y.miner) = false := by rw [bne] at hq4; simpa using hq4
      rw [HR.out, h9]
      simp)
    clear hq4
    go_wp2
    go_ret
    exact ⟨by rw [hf.out]; rfl, BB.out⟩
  have hr4 : Hid ((x.miner == y.miner) = true) := Lib.hid (by rw [bne] at hq4; simpa using hq4)
  clear hq4
  have hc12 := AA.out.1.2.2.2.2.2.cell0'
  have hc22 := AA.out.2.2.2.2.2.2.cell0'
  cases hq5 : (x.nonce == y.nonce)
  · have hq5' : (x.nonce != y.nonce) = true := by rw [bne, hq5]; rfl
    have hf' : Hid (R = false) := Lib.hid (by rw [HR.out, hq5]; simp)
    go_wp2
    go_ret
    exact ⟨by rw [hf'.out]; rfl, BB.out⟩
  have hq5' : (x.nonce != y.nonce) = false := by rw [bne, hq5]; rfl
  have hf : Hid (R = decide (x.par = y.par)) := Lib.hid (by rw [HR.out, hr1.out, hr2.out, hr3.out, hr4.out, hq5]; simp)
  go_wp2
  clear hc1 hc2 hc12 hc22 hq5 hq5' hr1 hr2 hr3 hr4 HR AA
  go_loopw [5] (fun v5 wr => Below w2.heap.size w2 wr ∧ ∃ k : Nat, k ≤ N ∧ v5 = .int .i64 (k : Int) ∧ x.par.take k = y.par.take k)
    (fun v _ => N - (RowKit.intOf v).toNat)
  case atStart => exact ⟨Below.refl _ _, 0, by omega, rfl, rfl⟩
  case round =>
    obtain ⟨hb, k, hk, rfl, ht⟩ := hrel
    have HB := Lib.hid hb
    have HT := Lib.hid ht
    have hc10 := hd_cell (KK.out.1.fresh hb)
    clear hb ht
    by_cases hlt : k < N
    · obtain ⟨xi, hx⟩ : ∃ z, x.par[k]? = some z := ⟨_, List.getElem?_eq_getElem (by rw [← HN.out.1]; exact hlt)⟩
      obtain ⟨yi, hy⟩ : ∃ z, y.par[k]? = some z := ⟨_, List.getElem?_eq_getElem (by rw [← HN.out.2]; exact hlt)⟩
      obtain ⟨ad, c, he⟩ := HU.out.isSome HN.out.1.symm (by omega)
      simp only [Value.slice.injEq, true_and] at he
      obtain ⟨rfl, rfl⟩ := he
      obtain ⟨bd, d, he⟩ := HV.out.isSome HN.out.2.symm (by omega)
      simp only [Value.slice.injEq, true_and] at he
      obtain ⟨rfl, rfl⟩ := he
      have HZ := Lib.hid (And.intro hx (And.intro hy (And.intro (HU.out.1.get hx) (HV.out.1.get hy))))
      have b2r : Below w.heap.size w wr.drew := (BB.out.tr HB.out).drew
      have hS : Hid (At wr.drew w.heap.size 0 (hdC x (.slice (some ad) N c0)) ∧ At wr.drew (w.heap.size + 1) 0 (hdC y (.slice (some bd) N c1)) ∧ Hs wr.drew (.slice (some ad) N c0) x.par ∧ Hs wr.drew (.slice (some bd) N c1) y.par) := Lib.hid ⟨KK.out.1.fresh HB.out.drew, KK.out.2.fresh HB.out.drew, HU.out.fresh b2r, HV.out.fresh b2r⟩
      have ik : (k : Int) < (N : Int) := by omega
      have HK := Lib.hid hlt
      clear hx hy hlt hk b2r
      cases hxy : (xi != yi)
      · have QX := Lib.hid hxy
        clear hxy
        go_wp2_with fail
        refine pl_start 11 rfl (fun w' => At w' w.heap.size 0 (hdC x (.slice (some ad) N c0)) ∧ At w' (w.heap.size + 1) 0 (hdC y (.slice (some bd) N c1)) ∧ Hs w' (.slice (some ad) N c0) x.par ∧ Hs w' (.slice (some bd) N c1) y.par) (by kernel_rfl) ?_
        refine pl_take (i := 0) 55 rfl rfl rfl (by kernel_rfl) (by kernel_rfl) (by kernel_rfl) (by simp [Act.put]) hS.out ?_
        apply Exists.intro
        refine And.intro (fun w' hS' => ?_) ?_
        · go_wp2
          first
            | exact ⟨trivial, rfl⟩
            | exact rfl
        refine pl_take (i := 1) 56 rfl rfl rfl (by kernel_rfl) (by kernel_rfl) (by kernel_rfl) (by simp [Act.put]) hS.out ?_
        apply Exists.intro
        refine And.intro (fun w' hS' => ?_) ?_
        · have hc := hd_cell hS'.1
          clear hS'
          go_wp2
          first
            | exact ⟨trivial, rfl⟩
            | exact rfl
        refine pl_take (i := 2) 57 rfl rfl rfl (by kernel_rfl) (by kernel_rfl) (by kernel_rfl) (by simp [Act.put]) hS.out ?_
        apply Exists.intro
        refine And.intro (fun w' hS' => ?_) ?_
        · go_wp2
          first
            | exact ⟨trivial, rfl⟩
            | exact rfl
        refine pl_take (i := 3) 58 rfl rfl rfl (by kernel_rfl) (by kernel_rfl) (by kernel_rfl) (by simp [Act.put]) hS.out ?_
        apply Exists.intro
        refine And.intro (fun w' hS' => ?_) ?_
        · clear hS'
          go_wp2
          first
            | exact ⟨trivial, rfl⟩
            | exact rfl
        refine pl_take (i := 4) 59 rfl rfl rfl (by kernel_rfl) (by kernel_rfl) (by kernel_rfl) (by simp [Act.put]) hS.out ?_
        apply Exists.intro
        refine And.intro (fun w' hS' => ?_) ?_
        · refine wpList_load_agg rfl 24 (.tmp 58) rfl (ad.add (k * 32)) rfl (bvs xi) _ (hS'.2.2.1.elem' HZ.out.1) Try.underlying24 rfl (by rw [bvs_length, HZ.out.2.2.1]; exact infoHash) ?_
          go_wp2
          exact ⟨trivial, rfl⟩
        refine pl_take (i := 5) 60 rfl rfl rfl (by kernel_rfl) (by kernel_rfl) (by kernel_rfl) (by simp [Act.put]) hS.out ?_
        apply Exists.intro
        refine And.intro (fun w' hS' => ?_) ?_
        · go_wp2
          first
            | exact ⟨trivial, rfl⟩
            | exact rfl
        refine pl_take (i := 6) 61 rfl rfl rfl (by kernel_rfl) (by kernel_rfl) (by kernel_rfl) (by simp [Act.put]) hS.out ?_
        apply Exists.intro
        refine And.intro (fun w' hS' => ?_) ?_
        · have hc := hd_cell hS'.2.1
          clear hS'
          go_wp2
          first
            | exact ⟨trivial, rfl⟩
            | exact rfl
        refine pl_take (i := 7) 62 rfl rfl rfl (by kernel_rfl) (by kernel_rfl) (by kernel_rfl) (by simp [Act.put]) hS.out ?_
        apply Exists.intro
        refine And.intro (fun w' hS' => ?_) ?_
        · go_wp2
          first
            | exact ⟨trivial, rfl⟩
            | exact rfl
        refine pl_take (i := 8) 63 rfl rfl rfl (by kernel_rfl) (by kernel_rfl) (by kernel_rfl) (by simp [Act.put]) hS.out ?_
        apply Exists.intro
        refine And.intro (fun w' hS' => ?_) ?_
        · clear hS'
          go_wp2
          first
            | exact ⟨trivial, rfl⟩
            | exact rfl
        refine pl_take (i := 9) 64 rfl rfl rfl (by kernel_rfl) (by kernel_rfl) (by kernel_rfl) (by simp [Act.put]) hS.out ?_
        apply Exists.intro
        refine And.intro (fun w' hS' => ?_) ?_
        · refine wpList_load_agg rfl 24 (.tmp 63) rfl (bd.add (k * 32)) rfl (bvs yi) _ (hS'.2.2.2.elem' HZ.out.2.1) Try.underlying24 rfl (by rw [bvs_length, HZ.out.2.2.2]; exact infoHash) ?_
          go_wp2
          exact ⟨trivial, rfl⟩
        refine pl_take (i := 10) 65 rfl rfl rfl (by kernel_rfl) (by kernel_rfl) (by kernel_rfl) (by simp [Act.put]) hS.out ?_
        apply Exists.intro
        refine And.intro (fun w' hS' => ?_) ?_
        · refine wpList_bin rfl .neq 24 24 (.tmp 59) (.tmp 64) rfl (.bool false) (eqGuard_agg _ _ _ _ _ _ _ (by kernel_rfl)) ((hash_ne w' xi yi HZ.out.2.2.1 HZ.out.2.2.2).trans (by rw [QX.out])) ?_
          clear hS'
          go_wp2
          exact ⟨trivial, rfl⟩
        refine pl_done (by kernel_rfl) ?_
        have HT' := Lib.hid (take_step HZ.out.1 HZ.out.2.1 HT.out (by simpa [bne] using QX.out))
        have B1 : Hid (Below w2.heap.size w2 wr.drew) := Lib.hid HB.out.drew
        clear hc10
        go_wp2
        go_roundw
        case rel => exact ⟨B1.out, k + 1, HK.out, by go_num, HT'.out⟩
        case measure => simp only [RowKit.intOf]; have := HK.out; omega
      · have QX := Lib.hid hxy
        clear hxy
        go_wp2_with fail
        refine pl_start 11 rfl (fun w' => At w' w.heap.size 0 (hdC x (.slice (some ad) N c0)) ∧ At w' (w.heap.size + 1) 0 (hdC y (.slice (some bd) N c1)) ∧ Hs w' (.slice (some ad) N c0) x.par ∧ Hs w' (.slice (some bd) N c1) y.par) (by kernel_rfl) ?_
        refine pl_take (i := 0) 55 rfl rfl rfl (by kernel_rfl) (by kernel_rfl) (by kernel_rfl) (by simp [Act.put]) hS.out ?_
        apply Exists.intro
        refine And.intro (fun w' hS' => ?_) ?_
        · go_wp2
          first
            | exact ⟨trivial, rfl⟩
            | exact rfl
        refine pl_take (i := 1) 56 rfl rfl rfl (by kernel_rfl) (by kernel_rfl) (by kernel_rfl) (by simp [Act.put]) hS.out ?_
        apply Exists.intro
        refine And.intro (fun w' hS' => ?_) ?_
        · have hc := hd_cell hS'.1
          clear hS'
          go_wp2
          first
            | exact ⟨trivial, rfl⟩
            | exact rfl
        refine pl_take (i := 2) 57 rfl rfl rfl (by kernel_rfl) (by kernel_rfl) (by kernel_rfl) (by simp [Act.put]) hS.out ?_
        apply Exists.intro
        refine And.intro (fun w' hS' => ?_) ?_
        · go_wp2
          first
            | exact ⟨trivial, rfl⟩
            | exact rfl
        refine pl_take (i := 3) 58 rfl rfl rfl (by kernel_rfl) (by kernel_rfl) (by kernel_rfl) (by simp [Act.put]) hS.out ?_
        apply Exists.intro
        refine And.intro (fun w' hS' => ?_) ?_
        · clear hS'
          go_wp2
          first
            | exact ⟨trivial, rfl⟩
            | exact rfl
        refine pl_take (i := 4) 59 rfl rfl rfl (by kernel_rfl) (by kernel_rfl) (by kernel_rfl) (by simp [Act.put]) hS.out ?_
        apply Exists.intro
        refine And.intro (fun w' hS' => ?_) ?_
        · refine wpList_load_agg rfl 24 (.tmp 58) rfl (ad.add (k * 32)) rfl (bvs xi) _ (hS'.2.2.1.elem' HZ.out.1) Try.underlying24 rfl (by rw [bvs_length, HZ.out.2.2.1]; exact infoHash) ?_
          go_wp2
          exact ⟨trivial, rfl⟩
        refine pl_take (i := 5) 60 rfl rfl rfl (by kernel_rfl) (by kernel_rfl) (by kernel_rfl) (by simp [Act.put]) hS.out ?_
        apply Exists.intro
        refine And.intro (fun w' hS' => ?_) ?_
        · go_wp2
          first
            | exact ⟨trivial, rfl⟩
            | exact rfl
        refine pl_take (i := 6) 61 rfl rfl rfl (by kernel_rfl) (by kernel_rfl) (by kernel_rfl) (by simp [Act.put]) hS.out ?_
        apply Exists.intro
        refine And.intro (fun w' hS' => ?_) ?_
        · have hc := hd_cell hS'.2.1
          clear hS'
          go_wp2
          first
            | exact ⟨trivial, rfl⟩
            | exact rfl
        refine pl_take (i := 7) 62 rfl rfl rfl (by kernel_rfl) (by kernel_rfl) (by kernel_rfl) (by simp [Act.put]) hS.out ?_
        apply Exists.intro
        refine And.intro (fun w' hS' => ?_) ?_
        · go_wp2
          first
            | exact ⟨trivial, rfl⟩
            | exact rfl
        refine pl_take (i := 8) 63 rfl rfl rfl (by kernel_rfl) (by kernel_rfl) (by kernel_rfl) (by simp [Act.put]) hS.out ?_
        apply Exists.intro
        refine And.intro (fun w' hS' => ?_) ?_
        · clear hS'
          go_wp2
          first
            | exact ⟨trivial, rfl⟩
            | exact rfl
        refine pl_take (i := 9) 64 rfl rfl rfl (by kernel_rfl) (by kernel_rfl) (by kernel_rfl) (by simp [Act.put]) hS.out ?_
        apply Exists.intro
        refine And.intro (fun w' hS' => ?_) ?_
        · refine wpList_load_agg rfl 24 (.tmp 63) rfl (bd.add (k * 32)) rfl (bvs yi) _ (hS'.2.2.2.elem' HZ.out.2.1) Try.underlying24 rfl (by rw [bvs_length, HZ.out.2.2.2]; exact infoHash) ?_
          go_wp2
          exact ⟨trivial, rfl⟩
        refine pl_take (i := 10) 65 rfl rfl rfl (by kernel_rfl) (by kernel_rfl) (by kernel_rfl) (by simp [Act.put]) hS.out ?_
        apply Exists.intro
        refine And.intro (fun w' hS' => ?_) ?_
        · refine wpList_bin rfl .neq 24 24 (.tmp 59) (.tmp 64) rfl (.bool true) (eqGuard_agg _ _ _ _ _ _ _ (by kernel_rfl)) ((hash_ne w' xi yi HZ.out.2.2.1 HZ.out.2.2.2).trans (by rw [QX.out])) ?_
          clear hS'
          go_wp2
          exact ⟨trivial, rfl⟩
        refine pl_done (by kernel_rfl) ?_
        have hf' : Hid (R = false) := Lib.hid (by
          rw [hf.out, decide_eq_false_iff_not]
          intro e
          have h1 := HZ.out.1
          rw [e, HZ.out.2.1] at h1
          have h2 := QX.out
          simp only [Option.some.injEq] at h1
          rw [h1] at h2
          simp at h2)
        have B1 : Hid (Below w.heap.size w wr.drew) := Lib.hid (BB.out.tr HB.out).drew
        go_wp2
        go_ret
        exact ⟨by rw [hf'.out]; rfl, B1.out⟩
    · have ik : ¬ ((k : Int) < (N : Int)) := by omega
      have hf' : Hid (R = true) := Lib.hid (by
        have h1 := HT.out
        rw [List.take_of_length_le (by have := HN.out.1; omega), List.take_of_length_le (by have := HN.out.2; omega)] at h1
        rw [hf.out, decide_eq_true h1])
      have B1 : Hid (Below w.heap.size w wr) := Lib.hid (BB.out.tr HB.out)
      clear hlt hk
      go_wp2
      go_ret
      exact ⟨by rw [hf'.out]; rfl, B1.out⟩

set_option maxRecDepth 100000 in
set_option maxHeartbeats 4000000 in
theorem rsamebl_any (F G : Nat → Prop) (w : World) (x y : BlD) (u v ut vt : Value) (hx : HdOk x.hd) (hy : HdOk y.hd) (hu : Hs w u x.hd.par) (hv : Hs w v y.hd.par) (hut : Txs F w ut x.txs) (hvt : Txs G w vt y.txs) :
    Calls Try.prog 10 #[.agg (blC x u ut).toArray, .agg (blC y v vt).toArray] w fun e w' => e = .returned (.bool (decide (x = y))) ∧ Below w.heap.size w w' := by
  obtain ⟨R, hR⟩ : ∃ R, R = decide (x = y) := ⟨_, rfl⟩
  rw [← hR]
  rw [bl_split] at hR
  obtain ⟨a0, c0, rfl⟩ := hut.slice
  obtain ⟨a1, c1, rfl⟩ := hvt.slice
  obtain ⟨N, hN⟩ : ∃ N, N = x.txs.length := ⟨_, rfl⟩
  obtain ⟨M, hM⟩ : ∃ M, M = y.txs.length := ⟨_, rfl⟩
  rw [← hN] at hut ⊢
  rw [← hM] at hvt ⊢
  have HR := Lib.hid hR
  have hfN : ¬ (N = M) → R = false := fun h => by
    rw [hR]
    have : decide (x.txs = y.txs) = false := decide_eq_false (fun e => h (by rw [hN, hM, e]))
    rw [this, Bool.and_false]
  have CH0 := fun w2 (b : Below w.heap.size w w2) => rsamehd_any w2 x.hd y.hd u v hx hy (hu.fresh b) (hv.fresh b)
  cases hq : decide (x.hd = y.hd)
  · rw [hq] at CH0
    have hf : Hid (R = false) := Lib.hid (by rw [HR.out, hq]; rfl)
    have CH := Lib.hid CH0
    obtain ⟨X, hX⟩ : ∃ X, X = blC x u (.slice a0 N c0) := ⟨_, rfl⟩
    obtain ⟨Y, hY⟩ : ∃ Y, Y = blC y v (.slice a1 M c1) := ⟨_, rfl⟩
    rw [← hX, ← hY]
    have HXY := Lib.hid (And.intro hX (And.intro hY (And.intro hx hy)))
    clear hR hX hY hx hy hu hv hut hvt hN hM hq hfN CH0
    go_enter Try.func10, Try.ntmps10
    go_wp2_with (with_reducible refine stopAt 7 ?_)
    refine Stop.go ?_
    obtain ⟨w1, h1, k1, b1, s1⟩ := alloc_cb w 30 X
    obtain ⟨w2, h2, k2, b2, s2⟩ := alloc_cb w1 30 Y
    change wpList _ _ _ _ _ ((w.alloc (.cells X.toArray 30)).alloc (.cells Y.toArray 30))
    rw [← h1, ← h2]
    rw [s1] at s2 k2
    have BB := Lib.hid (b1.tr b2)
    have A1 : At w2 w.heap.size 0 (blC x u (.slice a0 N c0)) := by rw [← HXY.out.1]; exact At.block (k1.fresh b2)
    have A2 : At w2 (w.heap.size + 1) 0 (blC y v (.slice a1 M c1)) := by rw [← HXY.out.2.1]; exact At.block k2
    have KK := Lib.hid (And.intro A1 A2)
    clear h1 h2 k1 k2 b1 b2 s1 s2 A1 A2
    refine wpList_load_agg rfl 27 (.tmp 6) rfl ⟨w.heap.size, 0, none⟩ rfl (hdC x.hd u) _ (At.pre KK.out.1).load Try.underlying27 rfl (by rw [hdC_length HXY.out.2.2.1]; exact infoHd) ?_
    go_wp2_with (with_reducible refine stopAt 9 ?_)
    refine Stop.go ?_
    refine wpList_load_agg rfl 27 (.tmp 8) rfl ⟨w.heap.size + 1, 0, none⟩ rfl (hdC y.hd v) _ (At.pre KK.out.2).load Try.underlying27 rfl (by rw [hdC_length HXY.out.2.2.2]; exact infoHd) ?_
    go_wp2_with fail
    refine (CH.out w2 BB.out).mono ?_
    rintro e w3 ⟨rfl, b3⟩
    replace BB := Lib.hid (BB.out.tr b3)
    clear b3 CH
    go_wp2
    go_ret
    exact ⟨by rw [hf.out]; rfl, BB.out⟩
  rw [hq] at CH0
  have CH := Lib.hid CH0
  clear CH0
  by_cases hNM : ¬ (N = M)
  · have hf : Hid (R = false) := Lib.hid (hfN hNM)
    have i1 : ¬ ((N : Int) = (M : Int)) := by omega
    have CH0 := trivial
    obtain ⟨X, hX⟩ : ∃ X, X = blC x u (.slice a0 N c0) := ⟨_, rfl⟩
    obtain ⟨Y, hY⟩ : ∃ Y, Y = blC y v (.slice a1 M c1) := ⟨_, rfl⟩
    rw [← hX, ← hY]
    have HXY := Lib.hid (And.intro hX (And.intro hY (And.intro hx hy)))
    clear hR hX hY hx hy hu hv hut hvt hN hM hq hfN CH0
    go_enter Try.func10, Try.ntmps10
    go_wp2_with (with_reducible refine stopAt 7 ?_)
    refine Stop.go ?_
    obtain ⟨w1, h1, k1, b1, s1⟩ := alloc_cb w 30 X
    obtain ⟨w2, h2, k2, b2, s2⟩ := alloc_cb w1 30 Y
    change wpList _ _ _ _ _ ((w.alloc (.cells X.toArray 30)).alloc (.cells Y.toArray 30))
    rw [← h1, ← h2]
    rw [s1] at s2 k2
    have BB := Lib.hid (b1.tr b2)
    have A1 : At w2 w.heap.size 0 (blC x u (.slice a0 N c0)) := by rw [← HXY.out.1]; exact At.block (k1.fresh b2)
    have A2 : At w2 (w.heap.size + 1) 0 (blC y v (.slice a1 M c1)) := by rw [← HXY.out.2.1]; exact At.block k2
    have KK := Lib.hid (And.intro A1 A2)
    clear h1 h2 k1 k2 b1 b2 s1 s2 A1 A2
    refine wpList_load_agg rfl 27 (.tmp 6) rfl ⟨w.heap.size, 0, none⟩ rfl (hdC x.hd u) _ (At.pre KK.out.1).load Try.underlying27 rfl (by rw [hdC_length HXY.out.2.2.1]; exact infoHd) ?_
    go_wp2_with (with_reducible refine stopAt 9 ?_)
    refine Stop.go ?_
    refine wpList_load_agg rfl 27 (.tmp 8) rfl ⟨w.heap.size + 1, 0, none⟩ rfl (hdC y.hd v) _ (At.pre KK.out.2).load Try.underlying27 rfl (by rw [hdC_length HXY.out.2.2.2]; exact infoHd) ?_
    go_wp2_with fail
    refine (CH.out w2 BB.out).mono ?_
    rintro e w3 ⟨rfl, b3⟩
    replace BB := Lib.hid (BB.out.tr b3)
    have hc1 := bl_cell (KK.out.1.fresh b3) HXY.out.2.2.1
    have hc2 := bl_cell (KK.out.2.fresh b3) HXY.out.2.2.2
    clear b3 CH
    go_wp2
    go_ret
    exact ⟨by rw [hf.out]; rfl, BB.out⟩
  replace hNM : N = M := Decidable.not_not.1 hNM
  have hf : Hid (R = decide (x.txs = y.txs)) := Lib.hid (by rw [HR.out, hq, Bool.true_and])
  have HN : Hid (N = x.txs.length ∧ N = y.txs.length) := Lib.hid ⟨hN, hNM.trans hM⟩
  have CH0 := trivial
  subst hNM
  obtain ⟨us, hlu, hru, heu⟩ := hut
  obtain ⟨vs, hlv, hrv, hev⟩ := hvt
  rw [← hN] at hlu hru
  rw [← hM] at hlv hrv
  have bN' : (N : Int) ≤ 9223372036854775807 := rd_small hru.1
  have HI := Lib.hid (And.intro hru.1 hrv.1)
  have HE := Lib.hid (And.intro heu hev)
  have HLs := Lib.hid (And.intro hlu hlv)
  have hut := trivial
  have hvt := trivial
  clear hlu hru heu hlv hrv hev
  obtain ⟨X, hX⟩ : ∃ X, X = blC x u (.slice a0 N c0) := ⟨_, rfl⟩
  obtain ⟨Y, hY⟩ : ∃ Y, Y = blC y v (.slice a1 N c1) := ⟨_, rfl⟩
  rw [← hX, ← hY]
  have HXY := Lib.hid (And.intro hX (And.intro hY (And.intro hx hy)))
  clear hR hX hY hx hy hu hv hut hvt hN hM hq hfN CH0
  go_enter Try.func10, Try.ntmps10
  go_wp2_with (with_reducible refine stopAt 7 ?_)
  refine Stop.go ?_
  obtain ⟨w1, h1, k1, b1, s1⟩ := alloc_cb w 30 X
  obtain ⟨w2, h2, k2, b2, s2⟩ := alloc_cb w1 30 Y
  change wpList _ _ _ _ _ ((w.alloc (.cells X.toArray 30)).alloc (.cells Y.toArray 30))
  rw [← h1, ← h2]
  rw [s1] at s2 k2
  have BB := Lib.hid (b1.tr b2)
  have A1 : At w2 w.heap.size 0 (blC x u (.slice a0 N c0)) := by rw [← HXY.out.1]; exact At.block (k1.fresh b2)
  have A2 : At w2 (w.heap.size + 1) 0 (blC y v (.slice a1 N c1)) := by rw [← HXY.out.2.1]; exact At.block k2
  have KK := Lib.hid (And.intro A1 A2)
  clear h1 h2 k1 k2 b1 b2 s1 s2 A1 A2
  refine wpList_load_agg rfl 27 (.tmp 6) rfl ⟨w.heap.size, 0, none⟩ rfl (hdC x.hd u) _ (At.pre KK.out.1).load Try.underlying27 rfl (by rw [hdC_length HXY.out.2.2.1]; exact infoHd) ?_
  go_wp2_with (with_reducible refine stopAt 9 ?_)
  refine Stop.go ?_
  refine wpList_load_agg rfl 27 (.tmp 8) rfl ⟨w.heap.size + 1, 0, none⟩ rfl (hdC y.hd v) _ (At.pre KK.out.2).load Try.underlying27 rfl (by rw [hdC_length HXY.out.2.2.2]; exact infoHd) ?_
  go_wp2_with fail
  refine (CH.out w2 BB.out).mono ?_
  rintro e w3 ⟨rfl, b3⟩
  replace BB := Lib.hid (BB.out.tr b3)
  replace KK := Lib.hid (And.intro (KK.out.1.fresh b3) (KK.out.2.fresh b3))
  have hc1 := bl_cell KK.out.1 HXY.out.2.2.1
  have hc2 := bl_cell KK.out.2 HXY.out.2.2.2
  clear b3 CH
  go_wp2
  clear hc1 hc2
  go_loopw [5] (fun v5 wr => Below w3.heap.size w3 wr ∧ ∃ k : Nat, k ≤ N ∧ v5 = .int .i64 (k : Int) ∧ x.txs.take k = y.txs.take k)
    (fun v _ => N - (RowKit.intOf v).toNat)
  case atStart => exact ⟨Below.refl _ _, 0, by omega, rfl, rfl⟩
  case round =>
    obtain ⟨hb, k, hk, rfl, ht⟩ := hrel
    have HB := Lib.hid hb
    have HT := Lib.hid ht
    have hc10 := bl_cell (KK.out.1.fresh hb) HXY.out.2.2.1
    clear hb ht
    by_cases hlt : k < N
    · obtain ⟨xi, hx⟩ : ∃ z, x.txs[k]? = some z := ⟨_, List.getElem?_eq_getElem (by rw [← HN.out.1]; exact hlt)⟩
      obtain ⟨yi, hy⟩ : ∃ z, y.txs[k]? = some z := ⟨_, List.getElem?_eq_getElem (by rw [← HN.out.2]; exact hlt)⟩
      obtain ⟨ux, hux⟩ : ∃ z, us[k]? = some z := ⟨_, List.getElem?_eq_getElem (by rw [HLs.out.1]; exact hlt)⟩
      obtain ⟨uy, huy⟩ : ∃ z, vs[k]? = some z := ⟨_, List.getElem?_eq_getElem (by rw [HLs.out.2]; exact hlt)⟩
      obtain ⟨ad, c, he⟩ := rd_some HI.out.1 (by omega)
      simp only [Value.slice.injEq, true_and] at he
      obtain ⟨rfl, rfl⟩ := he
      obtain ⟨bd, d, he⟩ := rd_some HI.out.2 (by omega)
      simp only [Value.slice.injEq, true_and] at he
      obtain ⟨rfl, rfl⟩ := he
      have HZ : Hid ((x.txs.zip us)[k]? = some (xi, ux) ∧ (y.txs.zip vs)[k]? = some (yi, uy)) := Lib.hid ⟨by rw [List.getElem?_zip_eq_some]; exact ⟨hx, hux⟩, by rw [List.getElem?_zip_eq_some]; exact ⟨hy, huy⟩⟩
      have HXX := Lib.hid (And.intro hx hy)
      have b2r : Below w.heap.size w wr.drew := (BB.out.tr HB.out).drew
      have hS : Hid (At wr.drew w.heap.size 0 (blC x u (.slice (some ad) N c0)) ∧ At wr.drew (w.heap.size + 1) 0 (blC y v (.slice (some bd) N c1)) ∧ Rd wr.drew 3 (.slice (some ad) N c0) N ((x.txs.zip us).flatMap txC) ∧ Rd wr.drew 3 (.slice (some bd) N c1) N ((y.txs.zip vs).flatMap txC)) := Lib.hid ⟨KK.out.1.fresh HB.out.drew, KK.out.2.fresh HB.out.drew, HI.out.1.fresh b2r, HI.out.2.fresh b2r⟩
      have h1 := HE.out.1 k xi ux hx hux
      have h2 := HE.out.2 k yi uy hy huy
      have CT := Lib.hid (rsame_any F G wr.drew xi yi ux uy ⟨h1.1.fresh b2r, h1.2.fresh b2r⟩ ⟨h2.1.fresh b2r, h2.2.fresh b2r⟩)
      have ik : (k : Int) < (N : Int) := by omega
      have HK := Lib.hid hlt
      clear hx hy hux huy hlt hk b2r h1 h2
      cases hxy : decide (xi = yi)
      · rw [hxy] at CT
        have QX := Lib.hid hxy
        clear hxy
        go_wp2_with fail
        refine pl_start 12 rfl (fun w' => At w' w.heap.size 0 (blC x u (.slice (some ad) N c0)) ∧ At w' (w.heap.size + 1) 0 (blC y v (.slice (some bd) N c1)) ∧ Rd w' 3 (.slice (some ad) N c0) N ((x.txs.zip us).flatMap txC) ∧ Rd w' 3 (.slice (some bd) N c1) N ((y.txs.zip vs).flatMap txC)) (by kernel_rfl) ?_
        refine pl_take (i := 0) 28 rfl rfl rfl (by kernel_rfl) (by kernel_rfl) (by kernel_rfl) (by simp [Act.put]) hS.out ?_
        apply Exists.intro
        refine And.intro (fun w' hS' => ?_) ?_
        · go_wp2
          first
            | exact ⟨trivial, rfl⟩
            | exact rfl
        refine pl_take (i := 1) 29 rfl rfl rfl (by kernel_rfl) (by kernel_rfl) (by kernel_rfl) (by simp [Act.put]) hS.out ?_
        apply Exists.intro
        refine And.intro (fun w' hS' => ?_) ?_
        · have hc := bl_cell hS'.1 HXY.out.2.2.1
          clear hS'
          go_wp2
          first
            | exact ⟨trivial, rfl⟩
            | exact rfl
        refine pl_take (i := 2) 30 rfl rfl rfl (by kernel_rfl) (by kernel_rfl) (by kernel_rfl) (by simp [Act.put]) hS.out ?_
        apply Exists.intro
        refine And.intro (fun w' hS' => ?_) ?_
        · go_wp2
          first
            | exact ⟨trivial, rfl⟩
            | exact rfl
        refine pl_take (i := 3) 31 rfl rfl rfl (by kernel_rfl) (by kernel_rfl) (by kernel_rfl) (by simp [Act.put]) hS.out ?_
        apply Exists.intro
        refine And.intro (fun w' hS' => ?_) ?_
        · clear hS'
          go_wp2
          first
            | exact ⟨trivial, rfl⟩
            | exact rfl
        refine pl_take (i := 4) 32 rfl rfl rfl (by kernel_rfl) (by kernel_rfl) (by kernel_rfl) (by simp [Act.put]) hS.out ?_
        apply Exists.intro
        refine And.intro (fun w' hS' => ?_) ?_
        · refine wpList_load_agg rfl 37 (.tmp 31) rfl (ad.add (k * 3)) rfl (txC (xi, ux)) _ (hS'.2.2.1.at (fun z hz => rfl) HZ.out.1) Try.underlying37 rfl (by exact infoTx) ?_
          clear hS'
          go_wp2
          exact ⟨trivial, rfl⟩
        refine pl_take (i := 5) 33 rfl rfl rfl (by kernel_rfl) (by kernel_rfl) (by kernel_rfl) (by simp [Act.put]) hS.out ?_
        apply Exists.intro
        refine And.intro (fun w' hS' => ?_) ?_
        · go_wp2
          first
            | exact ⟨trivial, rfl⟩
            | exact rfl
        refine pl_take (i := 6) 34 rfl rfl rfl (by kernel_rfl) (by kernel_rfl) (by kernel_rfl) (by simp [Act.put]) hS.out ?_
        apply Exists.intro
        refine And.intro (fun w' hS' => ?_) ?_
        · have hc := bl_cell hS'.2.1 HXY.out.2.2.2
          clear hS'
          go_wp2
          first
            | exact ⟨trivial, rfl⟩
            | exact rfl
        refine pl_take (i := 7) 35 rfl rfl rfl (by kernel_rfl) (by kernel_rfl) (by kernel_rfl) (by simp [Act.put]) hS.out ?_
        apply Exists.intro
        refine And.intro (fun w' hS' => ?_) ?_
        · go_wp2
          first
            | exact ⟨trivial, rfl⟩
            | exact rfl
        refine pl_take (i := 8) 36 rfl rfl rfl (by kernel_rfl) (by kernel_rfl) (by kernel_rfl) (by simp [Act.put]) hS.out ?_
        apply Exists.intro
        refine And.intro (fun w' hS' => ?_) ?_
        · clear hS'
          go_wp2
          first
            | exact ⟨trivial, rfl⟩
            | exact rfl
        refine pl_take (i := 9) 37 rfl rfl rfl (by kernel_rfl) (by kernel_rfl) (by kernel_rfl) (by simp [Act.put]) hS.out ?_
        apply Exists.intro
        refine And.intro (fun w' hS' => ?_) ?_
        · refine wpList_load_agg rfl 37 (.tmp 36) rfl (bd.add (k * 3)) rfl (txC (yi, uy)) _ (hS'.2.2.2.at (fun z hz => rfl) HZ.out.2) Try.underlying37 rfl (by exact infoTx) ?_
          clear hS'
          go_wp2
          exact ⟨trivial, rfl⟩
        refine pl_heavy (i := 10) rfl (by kernel_rfl) ?_
        go_wp2_with fail
        refine (CT.out).mono ?_
        rintro e w6 ⟨rfl, b6⟩
        replace hS := Lib.hid (And.intro (hS.out.1.fresh b6) (And.intro (hS.out.2.1.fresh b6) (And.intro (hS.out.2.2.1.fresh b6) (hS.out.2.2.2.fresh b6))))
        go_wp2
        refine And.intro hS.out ?_
        refine pl_take (i := 11) 39 rfl rfl rfl (by kernel_rfl) (by kernel_rfl) (by kernel_rfl) (by simp [Act.put]) hS.out ?_
        apply Exists.intro
        refine And.intro (fun w' hS' => ?_) ?_
        · go_wp2
          first
            | exact ⟨trivial, rfl⟩
            | exact rfl
        refine pl_done (by kernel_rfl) ?_
        have hf' : Hid (R = false) := Lib.hid (by
          rw [hf.out, decide_eq_false_iff_not]
          intro e
          have h1 := HXX.out.1
          rw [e, HXX.out.2] at h1
          have h2 := QX.out
          simp only [Option.some.injEq] at h1
          rw [h1] at h2
          simp at h2)
        have B1 : Hid (Below w.heap.size w w6) := Lib.hid ((BB.out.tr HB.out).drew.tr b6)
        clear b6
        go_wp2
        go_ret
        exact ⟨by rw [hf'.out]; rfl, B1.out⟩
      · rw [hxy] at CT
        have QX := Lib.hid hxy
        clear hxy
        go_wp2_with fail
        refine pl_start 12 rfl (fun w' => At w' w.heap.size 0 (blC x u (.slice (some ad) N c0)) ∧ At w' (w.heap.size + 1) 0 (blC y v (.slice (some bd) N c1)) ∧ Rd w' 3 (.slice (some ad) N c0) N ((x.txs.zip us).flatMap txC) ∧ Rd w' 3 (.slice (some bd) N c1) N ((y.txs.zip vs).flatMap txC)) (by kernel_rfl) ?_
        refine pl_take (i := 0) 28 rfl rfl rfl (by kernel_rfl) (by kernel_rfl) (by kernel_rfl) (by simp [Act.put]) hS.out ?_
        apply Exists.intro
        refine And.intro (fun w' hS' => ?_) ?_
        · go_wp2
          first
            | exact ⟨trivial, rfl⟩
            | exact rfl
        refine pl_take (i := 1) 29 rfl rfl rfl (by kernel_rfl) (by kernel_rfl) (by kernel_rfl) (by simp [Act.put]) hS.out ?_
        apply Exists.intro
        refine And.intro (fun w' hS' => ?_) ?_
        · have hc := bl_cell hS'.1 HXY.out.2.2.1
          clear hS'
          go_wp2
          first
            | exact ⟨trivial, rfl⟩
            | exact rfl
        refine pl_take (i := 2) 30 rfl rfl rfl (by kernel_rfl) (by kernel_rfl) (by kernel_rfl) (by simp [Act.put]) hS.out ?_
        apply Exists.intro
        refine And.intro (fun w' hS' => ?_) ?_
        · go_wp2
          first
            | exact ⟨trivial, rfl⟩
            | exact rfl
        refine pl_take (i := 3) 31 rfl rfl rfl (by kernel_rfl) (by kernel_rfl) (by kernel_rfl) (by simp [Act.put]) hS.out ?_
        apply Exists.intro
        refine And.intro (fun w' hS' => ?_) ?_
        · clear hS'
          go_wp2
          first
            | exact ⟨trivial, rfl⟩
            | exact rfl
        refine pl_take (i := 4) 32 rfl rfl rfl (by kernel_rfl) (by kernel_rfl) (by kernel_rfl) (by simp [Act.put]) hS.out ?_
        apply Exists.intro
        refine And.intro (fun w' hS' => ?_) ?_
        · refine wpList_load_agg rfl 37 (.tmp 31) rfl (ad.add (k * 3)) rfl (txC (xi, ux)) _ (hS'.2.2.1.at (fun z hz => rfl) HZ.out.1) Try.underlying37 rfl (by exact infoTx) ?_
          clear hS'
          go_wp2
          exact ⟨trivial, rfl⟩
        refine pl_take (i := 5) 33 rfl rfl rfl (by kernel_rfl) (by kernel_rfl) (by kernel_rfl) (by simp [Act.put]) hS.out ?_
        apply Exists.intro
        refine And.intro (fun w' hS' => ?_) ?_
        · go_wp2
          first
            | exact ⟨trivial, rfl⟩
            | exact rfl
        refine pl_take (i := 6) 34 rfl rfl rfl (by kernel_rfl) (by kernel_rfl) (by kernel_rfl) (by simp [Act.put]) hS.out ?_
        apply Exists.intro
        refine And.intro (fun w' hS' => ?_) ?_
        · have hc := bl_cell hS'.2.1 HXY.out.2.2.2
          clear hS'
          go_wp2
          first
            | exact ⟨trivial, rfl⟩
            | exact rfl
        refine pl_take (i := 7) 35 rfl rfl rfl (by kernel_rfl) (by kernel_rfl) (by kernel_rfl) (by simp [Act.put]) hS.out ?_
        apply Exists.intro
        refine And.intro (fun w' hS' => ?_) ?_
        · go_wp2
          first
            | exact ⟨trivial, rfl⟩
            | exact rfl
        refine pl_take (i := 8) 36 rfl rfl rfl (by kernel_rfl) (by kernel_rfl) (by kernel_rfl) (by simp [Act.put]) hS.out ?_
        apply Exists.intro
        refine And.intro (fun w' hS' => ?_) ?_
        · clear hS'
          go_wp2
          first
            | exact ⟨trivial, rfl⟩
            | exact rfl
        refine pl_take (i := 9) 37 rfl rfl rfl (by kernel_rfl) (by kernel_rfl) (by kernel_rfl) (by simp [Act.put]) hS.out ?_
        apply Exists.intro
        refine And.intro (fun w' hS' => ?_) ?_
        · refine wpList_load_agg rfl 37 (.tmp 36) rfl (bd.add (k * 3)) rfl (txC (yi, uy)) _ (hS'.2.2.2.at (fun z hz => rfl) HZ.out.2) Try.underlying37 rfl (by exact infoTx) ?_
          clear hS'
          go_wp2
          exact ⟨trivial, rfl⟩
        refine pl_heavy (i := 10) rfl (by kernel_rfl) ?_
        go_wp2_with fail
        refine (CT.out).mono ?_
        rintro e w6 ⟨rfl, b6⟩
        replace hS := Lib.hid (And.intro (hS.out.1.fresh b6) (And.intro (hS.out.2.1.fresh b6) (And.intro (hS.out.2.2.1.fresh b6) (hS.out.2.2.2.fresh b6))))
        go_wp2
        refine And.intro hS.out ?_
        refine pl_take (i := 11) 39 rfl rfl rfl (by kernel_rfl) (by kernel_rfl) (by kernel_rfl) (by simp [Act.put]) hS.out ?_
        apply Exists.intro
        refine And.intro (fun w' hS' => ?_) ?_
        · go_wp2
          first
            | exact ⟨trivial, rfl⟩
            | exact rfl
        refine pl_done (by kernel_rfl) ?_
        have HT' := Lib.hid (take_step HXX.out.1 HXX.out.2 HT.out (of_decide_eq_true QX.out))
        have B1 : Hid (Below w3.heap.size w3 w6) := Lib.hid (HB.out.drew.tr b6)
        clear hc10 b6
        go_wp2
        go_roundw
        case rel => exact ⟨B1.out, k + 1, HK.out, by go_num, HT'.out⟩
        case measure => simp only [RowKit.intOf]; have := HK.out; omega
    · have ik : ¬ ((k : Int) < (N : Int)) := by omega
      have hf' : Hid (R = true) := Lib.hid (by
        have h1 := HT.out
        rw [List.take_of_length_le (by have := HN.out.1; omega), List.take_of_length_le (by have := HN.out.2; omega)] at h1
        rw [hf.out, decide_eq_true h1])
      have B1 : Hid (Below w.heap.size w wr) := Lib.hid (BB.out.tr HB.out)
      clear hlt hk
      go_wp2
      go_ret
      exact ⟨by rw [hf'.out]; rfl, B1.out⟩

end Go.Proofs.Ytkbahhnjoidhcaa
