/- block.SameHeader, block.Same: the walks. -/
import Derived.Test.YtkbahhnjoidhcaaXh
namespace Go.Proofs.Ytkbahhnjoidhcaa
set_option linter.unusedVariables false
set_option linter.unusedSimpArgs false
open Go.RowKit

/-- A header's cells, a block's. -/
def hdC (x : HdD) (v : Value) : List Value := [v] ++ (bvs x.root ++ (bvs x.acc ++ (bvs x.coins ++ (bvs x.miner ++ [.int .u64 x.nonce]))))
def HdOk (x : HdD) : Prop := x.root.length = 32 ∧ x.acc.length = 32 ∧ x.coins.length = 32 ∧ x.miner.length = 32
def blC (x : BlD) (v t : Value) : List Value := hdC x.hd v ++ [t]

theorem hdC_length {x : HdD} {v : Value} (h : HdOk x) : (hdC x v).length = 130 := by
  obtain ⟨h1, h2, h3, h4⟩ := h
  simp [hdC, h1, h2, h3, h4]

theorem infoHd : (Try.prog.info? 27).map (·.size) = some 130 := by kernel_rfl
theorem infoBl : (Try.prog.info? 30).map (·.size) = some 131 := by kernel_rfl

theorem At.post {w : World} {b o : Nat} {cs ds : List Value} (h : At w b o (cs ++ ds)) : At w b (o + cs.length) ds := fun j u hj => by
  have h1 := h (cs.length + j) u (by rw [List.getElem?_append_right (by omega)]; rw [← hj]; congr 1; omega)
  rwa [← Nat.add_assoc] at h1

theorem At.post' {w : World} {b o n o' : Nat} {cs ds : List Value} (h : At w b o (cs ++ ds)) (hn : cs.length = n) (ho : o + n = o') : At w b o' ds := by
  subst hn
  subst ho
  exact h.post

theorem hd_at {w : World} {b : Nat} {x : HdD} {v : Value} (h : At w b 0 (hdC x v)) (hx : HdOk x) :
    At w b 0 [v] ∧ At w b 1 (bvs x.root) ∧ At w b 33 (bvs x.acc) ∧ At w b 65 (bvs x.coins) ∧ At w b 97 (bvs x.miner) ∧ At w b 129 [.int .u64 x.nonce] := by
  obtain ⟨h1, h2, h3, h4⟩ := hx
  unfold hdC at h
  have a1 := h.post' (n := 1) (o' := 1) rfl rfl
  have a2 := a1.post' (n := 32) (o' := 33) (by rw [bvs_length, h1]) rfl
  have a3 := a2.post' (n := 32) (o' := 65) (by rw [bvs_length, h2]) rfl
  have a4 := a3.post' (n := 32) (o' := 97) (by rw [bvs_length, h3]) rfl
  have a5 := a4.post' (n := 32) (o' := 129) (by rw [bvs_length, h4]) rfl
  exact ⟨h.pre, a1.pre, a2.pre, a3.pre, a4.pre, a5⟩

theorem hd_split (x y : HdD) : decide (x = y) = (decide (x.par = y.par) && ((x.root == y.root) && ((x.acc == y.acc) && ((x.coins == y.coins) && ((x.miner == y.miner) && (x.nonce == y.nonce)))))) := by
  rw [Bool.eq_iff_iff]
  cases x; cases y
  simp

theorem bl_split (x y : BlD) : decide (x = y) = (decide (x.hd = y.hd) && decide (x.txs = y.txs)) := by
  rw [Bool.eq_iff_iff]
  cases x; cases y
  simp

set_option maxRecDepth 100000 in
set_option maxHeartbeats 2000000 in
theorem samehd_any (w : World) (x y : HdD) (u v : Value) (hx : HdOk x) (hy : HdOk y) (hu : Hs w u x.par) (hv : Hs w v y.par) :
    Calls Try.prog 12 #[.agg (hdC x u).toArray, .agg (hdC y v).toArray] w fun e w' => e = .returned (.bool (decide (x = y))) ∧ Below w.heap.size w w' := by
  obtain ⟨R, hR⟩ : ∃ R, R = decide (x = y) := ⟨_, rfl⟩
  rw [← hR]
  rw [hd_split] at hR
  obtain ⟨X, hX⟩ : ∃ X, X = hdC x u := ⟨_, rfl⟩
  obtain ⟨Y, hY⟩ : ∃ Y, Y = hdC y v := ⟨_, rfl⟩
  rw [← hX, ← hY]
  have HXY := Lib.hid (And.intro hX (And.intro hY (And.intro hx hy)))
  have HU := Lib.hid (And.intro hu hv)
  have HR := Lib.hid hR
  clear hR hX hY hx hy hu hv
  go_enter Try.func12, Try.ntmps12
  go_wp2_with (with_reducible refine stopAt 6 ?_)
  refine Stop.go ?_
  obtain ⟨w1, h1, k1, b1, s1⟩ := alloc_cb w 27 X
  obtain ⟨w2, h2, k2, b2, s2⟩ := alloc_cb w1 27 Y
  change wpList _ _ _ _ _ ((w.alloc (.cells X.toArray 27)).alloc (.cells Y.toArray 27))
  rw [← h1, ← h2]
  rw [s1] at s2 k2
  have BB := Lib.hid (b1.tr b2)
  have KK := Lib.hid (And.intro (k1.fresh b2) k2)
  have A1 : At w2 w.heap.size 0 (hdC x u) := by rw [← HXY.out.1]; exact At.block (k1.fresh b2)
  have A2 : At w2 (w.heap.size + 1) 0 (hdC y v) := by rw [← HXY.out.2.1]; exact At.block k2
  have hc1 := (hd_at A1 HXY.out.2.2.1).1.cell0'
  have hc2 := (hd_at A2 HXY.out.2.2.2).1.cell0'
  clear h1 h2 k1 k2 b1 b2 s1 s2 A1 A2
  go_wp2_with fail
  refine (equal_hash w2 u v x.par y.par (HU.out.1.fresh BB.out) (HU.out.2.fresh BB.out)).mono ?_
  rintro e w3 ⟨rfl, b3⟩
  replace BB := Lib.hid (BB.out.tr b3)
  have A1 : At w3 w.heap.size 0 (hdC x u) := by rw [← HXY.out.1]; exact At.block (KK.out.1.fresh b3)
  have A2 : At w3 (w.heap.size + 1) 0 (hdC y v) := by rw [← HXY.out.2.1]; exact At.block (KK.out.2.fresh b3)
  have AA := Lib.hid (And.intro (hd_at A1 HXY.out.2.2.1) (hd_at A2 HXY.out.2.2.2))
  clear b3 hc1 hc2 A1 A2 KK
  cases hq0 : decide (x.par = y.par)
  · have hf : Hid (R = false) := Lib.hid (by rw [HR.out, hq0]; simp)
    clear hq0
    go_wp2
    go_ret
    exact ⟨by rw [hf.out]; rfl, BB.out⟩
  have hr0 := Lib.hid hq0
  clear hq0
  go_wp2_with (with_reducible refine stopAt 12 ?_)
  refine Stop.go ?_
  refine wpList_unguard' rfl ?_
  refine wpList_load_agg rfl 24 (.tmp 11) rfl (⟨w.heap.size, 1, none⟩) rfl (bvs x.root) _ (AA.out.1.2.1.load) Try.underlying24 rfl (by rw [bvs_length, HXY.out.2.2.1.1]; exact infoHash) ?_
  go_wp2_with (with_reducible refine stopAt 14 ?_)
  refine Stop.go ?_
  refine wpList_unguard' rfl ?_
  refine wpList_load_agg rfl 24 (.tmp 13) rfl (⟨w.heap.size + 1, 1, none⟩) rfl (bvs y.root) _ (AA.out.2.2.1.load) Try.underlying24 rfl (by rw [bvs_length, HXY.out.2.2.2.1]; exact infoHash) ?_
  go_wp2_with (with_reducible refine stopAt 15 ?_)
  refine Stop.go ?_
  refine wpList_unguard' rfl ?_
  refine wpList_bin rfl .eql 24 24 (.tmp 12) (.tmp 14) rfl (.bool (x.root == y.root)) (eqGuard_agg _ _ _ _ _ _ _ (by kernel_rfl)) (hash_eq w3 x.root y.root HXY.out.2.2.1.1 HXY.out.2.2.2.1) ?_
  cases hq1 : (x.root == y.root)
  · have hf : Hid (R = false) := Lib.hid (by rw [HR.out, hq1]; simp)
    clear hq1
    go_wp2
    go_ret
    exact ⟨by rw [hf.out]; rfl, BB.out⟩
  have hr1 := Lib.hid hq1
  clear hq1
  go_wp2_with (with_reducible refine stopAt 19 ?_)
  refine Stop.go ?_
  refine wpList_unguard' rfl ?_
  refine wpList_load_agg rfl 24 (.tmp 18) rfl (⟨w.heap.size, 33, none⟩) rfl (bvs x.acc) _ (AA.out.1.2.2.1.load) Try.underlying24 rfl (by rw [bvs_length, HXY.out.2.2.1.2.1]; exact infoHash) ?_
  go_wp2_with (with_reducible refine stopAt 21 ?_)
  refine Stop.go ?_
  refine wpList_unguard' rfl ?_
  refine wpList_load_agg rfl 24 (.tmp 20) rfl (⟨w.heap.size + 1, 33, none⟩) rfl (bvs y.acc) _ (AA.out.2.2.2.1.load) Try.underlying24 rfl (by rw [bvs_length, HXY.out.2.2.2.2.1]; exact infoHash) ?_
  go_wp2_with (with_reducible refine stopAt 22 ?_)
  refine Stop.go ?_
  refine wpList_unguard' rfl ?_
  refine wpList_bin rfl .eql 24 24 (.tmp 19) (.tmp 21) rfl (.bool (x.acc == y.acc)) (eqGuard_agg _ _ _ _ _ _ _ (by kernel_rfl)) (hash_eq w3 x.acc y.acc HXY.out.2.2.1.2.1 HXY.out.2.2.2.2.1) ?_
  cases hq2 : (x.acc == y.acc)
  · have hf : Hid (R = false) := Lib.hid (by rw [HR.out, hq2]; simp)
    clear hq2
    go_wp2
    go_ret
    exact ⟨by rw [hf.out]; rfl, BB.out⟩
  have hr2 := Lib.hid hq2
  clear hq2
  go_wp2_with (with_reducible refine stopAt 26 ?_)
  refine Stop.go ?_
  refine wpList_unguard' rfl ?_
  refine wpList_load_agg rfl 24 (.tmp 25) rfl (⟨w.heap.size, 65, none⟩) rfl (bvs x.coins) _ (AA.out.1.2.2.2.1.load) Try.underlying24 rfl (by rw [bvs_length, HXY.out.2.2.1.2.2.1]; exact infoHash) ?_
  go_wp2_with (with_reducible refine stopAt 28 ?_)
  refine Stop.go ?_
  refine wpList_unguard' rfl ?_
  refine wpList_load_agg rfl 24 (.tmp 27) rfl (⟨w.heap.size + 1, 65, none⟩) rfl (bvs y.coins) _ (AA.out.2.2.2.2.1.load) Try.underlying24 rfl (by rw [bvs_length, HXY.out.2.2.2.2.2.1]; exact infoHash) ?_
  go_wp2_with (with_reducible refine stopAt 29 ?_)
  refine Stop.go ?_
  refine wpList_unguard' rfl ?_
  refine wpList_bin rfl .eql 24 24 (.tmp 26) (.tmp 28) rfl (.bool (x.coins == y.coins)) (eqGuard_agg _ _ _ _ _ _ _ (by kernel_rfl)) (hash_eq w3 x.coins y.coins HXY.out.2.2.1.2.2.1 HXY.out.2.2.2.2.2.1) ?_
  cases hq3 : (x.coins == y.coins)
  · have hf : Hid (R = false) := Lib.hid (by rw [HR.out, hq3]; simp)
    clear hq3
    go_wp2
    go_ret
    exact ⟨by rw [hf.out]; rfl, BB.out⟩
  have hr3 := Lib.hid hq3
  clear hq3
  go_wp2_with (with_reducible refine stopAt 33 ?_)
  refine Stop.go ?_
  refine wpList_unguard' rfl ?_
  refine wpList_load_agg rfl 24 (.tmp 32) rfl (⟨w.heap.size, 97, none⟩) rfl (bvs x.miner) _ (AA.out.1.2.2.2.2.1.load) Try.underlying24 rfl (by rw [bvs_length, HXY.out.2.2.1.2.2.2]; exact infoHash) ?_
  go_wp2_with (with_reducible refine stopAt 35 ?_)
  refine Stop.go ?_
  refine wpList_unguard' rfl ?_
  refine wpList_load_agg rfl 24 (.tmp 34) rfl (⟨w.heap.size + 1, 97, none⟩) rfl (bvs y.miner) _ (AA.out.2.2.2.2.2.1.load) Try.underlying24 rfl (by rw [bvs_length, HXY.out.2.2.2.2.2.2]; exact infoHash) ?_
  go_wp2_with (with_reducible refine stopAt 36 ?_)
  refine Stop.go ?_
  refine wpList_unguard' rfl ?_
  refine wpList_bin rfl .eql 24 24 (.tmp 33) (.tmp 35) rfl (.bool (x.miner == y.miner)) (eqGuard_agg _ _ _ _ _ _ _ (by kernel_rfl)) (hash_eq w3 x.miner y.miner HXY.out.2.2.1.2.2.2 HXY.out.2.2.2.2.2.2) ?_
  cases hq4 : (x.miner == y.miner)
  · have hf : Hid (R = false) := Lib.hid (by rw [HR.out, hq4]; simp)
    clear hq4
    go_wp2
    go_ret
    exact ⟨by rw [hf.out]; rfl, BB.out⟩
  have hr4 := Lib.hid hq4
  clear hq4
  have hc1 := AA.out.1.2.2.2.2.2.cell0'
  have hc2 := AA.out.2.2.2.2.2.2.cell0'
  have hf : Hid (R = (x.nonce == y.nonce)) := Lib.hid (by rw [HR.out, hr0.out, hr1.out, hr2.out, hr3.out, hr4.out]; simp)
  cases hq5 : (x.nonce == y.nonce)
  · have hf' : Hid (R = false) := Lib.hid (by rw [hf.out, hq5])
    go_wp2
    go_ret
    exact ⟨by rw [hf'.out]; rfl, BB.out⟩
  · have hf' : Hid (R = true) := Lib.hid (by rw [hf.out, hq5])
    go_wp2
    go_ret
    exact ⟨by rw [hf'.out]; rfl, BB.out⟩

set_option maxRecDepth 100000 in
set_option maxHeartbeats 2000000 in
theorem samebl_any (F G : Nat → Prop) (w : World) (x y : BlD) (u v ut vt : Value) (hx : HdOk x.hd) (hy : HdOk y.hd) (hu : Hs w u x.hd.par) (hv : Hs w v y.hd.par) (hut : Txs F w ut x.txs) (hvt : Txs G w vt y.txs) :
    Calls Try.prog 11 #[.agg (blC x u ut).toArray, .agg (blC y v vt).toArray] w fun e w' => e = .returned (.bool (decide (x = y))) ∧ Below w.heap.size w w' := by
  obtain ⟨R, hR⟩ : ∃ R, R = decide (x = y) := ⟨_, rfl⟩
  rw [← hR]
  rw [bl_split] at hR
  obtain ⟨X, hX⟩ : ∃ X, X = blC x u ut := ⟨_, rfl⟩
  obtain ⟨Y, hY⟩ : ∃ Y, Y = blC y v vt := ⟨_, rfl⟩
  rw [← hX, ← hY]
  have HXY := Lib.hid (And.intro hX (And.intro hY (And.intro hx hy)))
  have HU := Lib.hid (And.intro hu (And.intro hv (And.intro hut hvt)))
  have HR := Lib.hid hR
  clear hR hX hY hx hy hu hv hut hvt
  go_enter Try.func11, Try.ntmps11
  go_wp2_with (with_reducible refine stopAt 6 ?_)
  refine Stop.go ?_
  obtain ⟨w1, h1, k1, b1, s1⟩ := alloc_cb w 30 X
  obtain ⟨w2, h2, k2, b2, s2⟩ := alloc_cb w1 30 Y
  change wpList _ _ _ _ _ ((w.alloc (.cells X.toArray 30)).alloc (.cells Y.toArray 30))
  rw [← h1, ← h2]
  rw [s1] at s2 k2
  have BB := Lib.hid (b1.tr b2)
  have KK := Lib.hid (And.intro (k1.fresh b2) k2)
  have A1 : At w2 w.heap.size 0 (blC x u ut) := by rw [← HXY.out.1]; exact At.block (k1.fresh b2)
  have A2 : At w2 (w.heap.size + 1) 0 (blC y v vt) := by rw [← HXY.out.2.1]; exact At.block k2
  unfold blC at A1 A2
  have AA := Lib.hid (And.intro A1 A2)
  clear h1 h2 k1 k2 b1 b2 s1 s2 A1 A2
  refine wpList_load_agg rfl 27 (.tmp 5) rfl ⟨w.heap.size, 0, none⟩ rfl (hdC x.hd u) _ AA.out.1.pre.load Try.underlying27 rfl (by rw [hdC_length HXY.out.2.2.1]; exact infoHd) ?_
  go_wp2_with (with_reducible refine stopAt 8 ?_)
  refine Stop.go ?_
  refine wpList_load_agg rfl 27 (.tmp 7) rfl ⟨w.heap.size + 1, 0, none⟩ rfl (hdC y.hd v) _ AA.out.2.pre.load Try.underlying27 rfl (by rw [hdC_length HXY.out.2.2.2]; exact infoHd) ?_
  have CH := Lib.hid (samehd_any w2 x.hd y.hd u v HXY.out.2.2.1 HXY.out.2.2.2 (HU.out.1.fresh BB.out) (HU.out.2.1.fresh BB.out))
  cases hq : decide (x.hd = y.hd)
  · rw [hq] at CH
    have hf : Hid (R = false) := Lib.hid (by rw [HR.out, hq]; rfl)
    clear hq
    go_wp2_with fail
    refine (CH.out).mono ?_
    rintro e w3 ⟨rfl, b3⟩
    replace BB := Lib.hid (BB.out.tr b3)
    clear b3 CH
    go_wp2
    go_ret
    exact ⟨by rw [hf.out]; rfl, BB.out⟩
  · rw [hq] at CH
    have hf : Hid (R = decide (x.txs = y.txs)) := Lib.hid (by rw [HR.out, hq, Bool.true_and])
    clear hq
    go_wp2_with fail
    refine (CH.out).mono ?_
    rintro e w3 ⟨rfl, b3⟩
    replace BB := Lib.hid (BB.out.tr b3)
    have hc1 := ((AA.out.1.fresh b3).post' (n := 130) (o' := 130) (hdC_length HXY.out.2.2.1) rfl).cell0'
    have hc2 := ((AA.out.2.fresh b3).post' (n := 130) (o' := 130) (hdC_length HXY.out.2.2.2) rfl).cell0'
    clear b3 CH
    go_wp2_with fail
    refine (equalf_tx F G w3 ut vt x.txs y.txs (HU.out.2.2.1.fresh BB.out) (HU.out.2.2.2.fresh BB.out)).mono ?_
    rintro e w4 ⟨rfl, b4⟩
    replace BB := Lib.hid (BB.out.tr b4)
    rw [← hf.out]
    clear b4 hc1 hc2
    go_wp2
    go_ret
    exact ⟨rfl, BB.out⟩

end Go.Proofs.Ytkbahhnjoidhcaa
