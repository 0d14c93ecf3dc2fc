/- Texts Yh Yi Yj Yk, one behind the other. -/
import Derived.Test.YtbabjepblakboaaG4
/- Merkle: the reference's leaves, knots, tops, roots: the walks. -/
namespace Go.Proofs.Ytbabjepblakboaa
set_option linter.unusedVariables false
set_option linter.unusedSimpArgs false
open Go.RowKit Go.Lib

set_option maxRecDepth 100000 in
theorem rleaf_any (w : World) (x : Bs) (hx : x.length = 32) :
    Calls Try.prog 102 #[.agg (bvs x).toArray] w fun e w' => e = .returned (.agg (bvs (leafB x)).toArray) ∧ Below w.heap.size w w' := by
  obtain ⟨Z, hZ⟩ : ∃ Z, Z = leafB x := ⟨_, rfl⟩
  have hZl : Hid (Z.length = 32) := Lib.hid (by rw [hZ]; exact leafB_length _)
  have CT := fun w0 v0 h0 => rtag_any w0 v0 [108, 101, 97, 102] x h0 (by omega) (by simp)
  rw [show shaB (textB [108, 101, 97, 102] x) = Z by rw [hZ]; rfl] at CT
  rw [← hZ]
  replace CT := Lib.hid CT
  have HX := Lib.hid hx
  clear hx hZ
  go_enter Try.func102, Try.ntmps102
  go_wp2_with fail
  obtain ⟨w1, h1, k1, b1, s1⟩ := alloc_cb w 24 (bvs x)
  obtain ⟨w2, h2, k2, b2, s2⟩ := alloc_cb w1 24 (bvs (List.replicate 32 0))
  change Calls _ _ _ ((w.alloc (.cells (bvs x).toArray 24)).alloc (.cells (bvs (List.replicate 32 0)).toArray 24)) _
  rw [← h1, ← h2]
  rw [s1] at s2 k2
  refine (CT.out _ _ ((k1.rd32 HX.out).fresh b2)).mono ?_
  rintro e w4 ⟨rfl, b4⟩
  have B4 : Hid (Below w.heap.size w w4) := (b1.tr b2).tr b4
  have K4 := Lib.hid (k2.fresh b4)
  clear b4 k1 k2 b1 b2 s1 s2 h1 h2
  go_wp2_with (with_reducible refine stopStore 24 ?_)
  refine Stop.go ?_
  refine wpList_store_var rfl 24 (.tmp 2) (.tmp 4) rfl (w.heap.size + 1) _ rfl _ (bvs Z) rfl K4.out (by simp [hZl.out]) (bvs_one _) (by rw [bvs_length, hZl.out]; exact infoHash) ?_
  intro wf kf of
  have BF : Hid (Below w.heap.size w wf) := Below.only B4.out of (by omega)
  have KF := Lib.hid kf
  clear kf of
  go_wp2
  exact bodyPost_ret (results_cell1 rfl _ _ (w.heap.size + 1) _ _ _ _ rfl KF.out Try.underlying24 rfl (by simp [hZl.out, infoHash])) rfl ⟨rfl, BF.out⟩

set_option maxRecDepth 100000 in
set_option maxHeartbeats 1000000 in
theorem rknot_any (w : World) (x y : Bs) (hx : x.length = 32) (hy : y.length = 32) :
    Calls Try.prog 103 #[.agg (bvs x).toArray, .agg (bvs y).toArray] w fun e w' => e = .returned (.agg (bvs (knotB x y)).toArray) ∧ Below w.heap.size w w' := by
  obtain ⟨i0, hi, hi0, hi1, hi2⟩ := info_parts infoU8
  obtain ⟨Z, hZ⟩ : ∃ Z, Z = knotB x y := ⟨_, rfl⟩
  have hZl : Hid (Z.length = 32) := Lib.hid (by rw [hZ]; exact knotB_length _ _)
  have e64 : (x ++ y).length = 64 := by simp; omega
  have CT := fun w0 v0 (h0 : Rd w0 1 v0 64 (bvs (x ++ y))) => rtag_any w0 v0 [107, 110, 111, 116] (x ++ y) (by rw [e64]; exact h0) (by simp; omega) (by simp)
  rw [show shaB (textB [107, 110, 111, 116] (x ++ y)) = Z by rw [hZ]; rfl] at CT
  rw [← hZ]
  replace CT := Lib.hid CT
  have HX := Lib.hid hx
  have HY := Lib.hid hy
  have E64 := Lib.hid e64
  clear hx hy hZ e64
  go_enter Try.func103, Try.ntmps103
  go_wp2_with fail
  obtain ⟨w1, h1, k1, b1, s1⟩ := alloc_cb w 24 (bvs x)
  obtain ⟨w2, h2, k2, b2, s2⟩ := alloc_cb w1 24 (bvs y)
  obtain ⟨w3, h3, k3, b3, s3⟩ := alloc_cb w2 24 (bvs (List.replicate 32 0))
  change Code.wp _ _ _ _ (((w.alloc (.cells (bvs x).toArray 24)).alloc (.cells (bvs y).toArray 24)).alloc (.cells (bvs (List.replicate 32 0)).toArray 24))
  rw [← h1, ← h2, ← h3]
  rw [s1] at s2 k2
  rw [s2] at s3 k3
  have X3 := Lib.hid (((k1.rd32 HX.out).fresh b2).fresh b3.drew)
  have Y3 := Lib.hid ((k2.rd32 HY.out).fresh b3.drew)
  have K3 : Hid (CB w3.drew 24 (w.heap.size + 1 + 1) (bvs (List.replicate 32 0))) := Lib.hid k3
  have B3 : Hid (Below w.heap.size w w3.drew) := Lib.hid ((b1.tr b2).tr b3).drew
  have S3 : Hid (w3.drew.heap.size = w.heap.size + 1 + 1 + 1) := Lib.hid s3
  clear h1 h2 h3 k1 k2 k3 b1 b2 b3 s1 s2 s3
  refine pl_start 6 rfl (fun _ => True) (by kernel_rfl) ?_
  obtain ⟨w4, hw4⟩ : ∃ w4, w4 = w3.drew := ⟨_, rfl⟩
  rw [← hw4] at X3 Y3 K3 B3 S3 ⊢
  clear hw4
  refine pl_take (i := 0) 5 rfl rfl rfl (by kernel_rfl) (by kernel_rfl) (by kernel_rfl) (by simp [Act.put]) trivial ?_
  apply Exists.intro
  refine And.intro (fun w' hS' => ?_) ?_
  · go_wp2
    exact ⟨trivial, rfl⟩
  refine pl_take (i := 2) 7 rfl rfl rfl (by kernel_rfl) (by kernel_rfl) (by kernel_rfl) (by simp [Act.put]) trivial ?_
  apply Exists.intro
  refine And.intro (fun w' hS' => ?_) ?_
  · go_wp2
    exact ⟨trivial, rfl⟩
  refine pl_heavy (i := 1) rfl (by kernel_rfl) ?_
  refine wpList_append_rd _ rfl _ (.tmp 5) 42 rfl w4.heap.size 5 i0 (.int .u8 0) 1 1 Try.underlying42 hi hi0 hi1 hi2 rfl (by decide) (.slice none 0 0) 0 [] rfl (World.ownsRow_nil _ _ _ _) _ x.length (bvs x) rfl X3.out (bvs_one _) (by unfold maxLen; have := HX.out; omega) (by have := HX.out; omega) (Nat.le_refl _) ?_
  intro v5 w5 hown5 hgr5 _ _
  have b5 : Below w4.heap.size w4 w5 := (Below.refl _ w4).grown hgr5 (Nat.le_refl _) (by simp [Value.ownBlock])
  have Y5 := Lib.hid (Y3.out.fresh b5)
  have K5 := Lib.hid (K3.out.fresh b5)
  have B5 := Lib.hid (B3.out.tr b5)
  have O5 : Hid (w5.ownsRow w4.heap.size 5 1 v5 32 (bvs x)) := Lib.hid (by have := hown5; rw [List.nil_append, Nat.zero_add, HX.out] at this; exact this)
  have Z5 : Hid (w4.heap.size ≤ w5.heap.size) := b5.size
  clear b5 hown5 hgr5 X3 Y3 K3 B3
  obtain ⟨a5, c5, rfl⟩ := own_slice O5.out
  go_wp2
  first
    | refine And.intro trivial ?_
    | skip
  refine pl_heavy (i := 3) rfl (by kernel_rfl) ?_
  refine wpList_append_rd _ rfl (.tmp 6) (.tmp 7) 42 rfl w4.heap.size 5 i0 (.int .u8 0) 1 1 Try.underlying42 hi hi0 hi1 hi2 rfl (by decide) _ 32 (bvs x) rfl O5.out _ y.length (bvs y) (by rfl) Y5.out (bvs_one _) (by unfold maxLen; have := HY.out; omega) (by have := HY.out; omega) Z5.out ?_
  intro v6 w6 hown6 hgr6 _ _
  have b6 : Below w4.heap.size w5 w6 := (Below.refl w4.heap.size w5).grown hgr6 Z5.out (fun j hj => (O5.out.lt j hj).1)
  have K6 := Lib.hid (K5.out.below b6 (by have := S3.out; omega))
  have B6 := Lib.hid (B5.out.trans (b6.mono (by have := S3.out; omega)))
  have R6 : Hid (Rd w6 1 v6 64 (bvs (x ++ y))) := Lib.hid (by
    have := Rd.of_own hown6
    rw [← bvs_append, HY.out] at this
    exact this)
  clear hown6 hgr6 b6 O5 Y5 K5 B5
  obtain ⟨a6, c6, rfl⟩ := R6.out.slice
  go_wp2
  first
    | refine And.intro trivial ?_
    | skip
  refine pl_heavy (i := 4) rfl (by kernel_rfl) ?_
  go_wp2_with fail
  refine (CT.out _ _ R6.out).mono ?_
  rintro e w7 ⟨rfl, b7⟩
  have K7 := Lib.hid (K6.out.fresh b7)
  have B7 := Lib.hid (B6.out.tr b7)
  clear b7 K6 B6 R6
  go_wp2
  first
    | refine And.intro trivial ?_
    | skip
  refine pl_heavy (i := 5) rfl (by kernel_rfl) ?_
  refine wpList_store_var rfl 24 (.tmp 4) (.tmp 9) rfl (w.heap.size + 1 + 1) _ rfl _ (bvs Z) rfl K7.out (by simp [hZl.out]) (bvs_one _) (by rw [bvs_length, hZl.out]; exact infoHash) ?_
  intro wf kf of
  have BF : Hid (Below w.heap.size w wf) := Below.only B7.out of (by omega)
  have KF := Lib.hid kf
  clear kf
  go_wp2
  first
    | refine And.intro trivial ?_
    | skip
  refine pl_done (by kernel_rfl) ?_
  go_wp2
  exact bodyPost_ret (results_cell1 rfl _ _ (w.heap.size + 1 + 1) _ _ _ _ rfl KF.out Try.underlying24 rfl (by simp [hZl.out, infoHash])) rfl ⟨rfl, BF.out⟩

set_option maxRecDepth 100000 in
set_option maxHeartbeats 1000000 in
theorem rtop_any (w : World) (n : Nat) (v : Value) (m : Bs) (hn : n ≤ 1099511627776) (hv : Rd w 1 v m.length (bvs m)) (hm : m.length ≤ 1000000) :
    Calls Try.prog 104 #[.int .i64 (n : Int), v] w fun e w' => e = .returned (.agg (bvs (topB n m)).toArray) ∧ Below w.heap.size w w' := by
  obtain ⟨i0, hi, hi0, hi1, hi2⟩ := info_parts infoU8
  obtain ⟨a0, c0, rfl⟩ := hv.slice
  obtain ⟨Z, hZ⟩ : ∃ Z, Z = topB n m := ⟨_, rfl⟩
  have hZl : Hid (Z.length = 32) := Lib.hid (by rw [hZ]; exact topB_length _ _)
  obtain ⟨k, hk⟩ : ∃ k, k = m.length := ⟨_, rfl⟩
  have e8 : (le n 8 ++ m).length = 8 + k := by simp; omega
  have CT := fun w0 v0 (h0 : Rd w0 1 v0 (8 + k) (bvs (le n 8 ++ m))) => rtag_any w0 v0 [114, 111, 111, 116] (le n 8 ++ m) (by rw [e8]; exact h0) (by omega) (by simp)
  rw [show shaB (textB [114, 111, 111, 116] (le n 8 ++ m)) = Z by rw [hZ]; rfl] at CT
  rw [← hZ]
  rw [← hk] at hv hm ⊢
  replace CT := Lib.hid CT
  have HV := Lib.hid hv
  have HN := Lib.hid (And.intro hn hm)
  have h0 : (0 : Int) ≤ (n : Int) := by omega
  clear hn hv hm hZ hk e8
  go_enter Try.func104, Try.ntmps104
  go_wp2_with fail
  obtain ⟨w1, h1, k1, b1, s1⟩ := alloc_cb w 24 (bvs (List.replicate 32 0))
  change Code.wp _ _ _ _ (w.alloc (.cells (bvs (List.replicate 32 0)).toArray 24))
  rw [← h1]
  have K1 := Lib.hid k1
  have B1 := Lib.hid b1
  have S1 := Lib.hid s1
  clear h1 k1 b1 s1
  go_wp2
  go_loopw [5, 6] (fun v5 v6 wr => ∃ j : Nat, j ≤ 8 ∧ v6 = .int .i64 (j : Int) ∧ wr.ownsRow (w.heap.size + 1) 5 1 v5 j (bvs (le n j)) ∧ CB wr 24 w.heap.size (bvs (List.replicate 32 0)) ∧ w.heap.size + 1 ≤ wr.heap.size ∧ Below w.heap.size w wr)
    (fun _ v _ => 8 - (intOf v).toNat)
  case atStart => exact ⟨0, by omega, rfl, World.ownsRow_nil _ _ _ _, K1.out, by rw [S1.out]; exact Nat.le_refl _, B1.out⟩
  case round =>
    obtain ⟨j, hj, rfl, ho, hk, hz, hb⟩ := hrel
    obtain ⟨a5, c5, rfl⟩ := own_slice ho
    have HO := Lib.hid ho
    have HK := Lib.hid hk
    have HZ := Lib.hid hz
    have HB := Lib.hid hb
    clear ho hk hz hb
    by_cases h8 : j < 8
    · have j8 : (j : Int) < 8 := by omega
      have H8 := Lib.hid h8
      clear h8
      go_wp2_with (at_builtin; apply Stop.mk)
      refine Stop.go ?_
      have hbv : Value.int .u8 ((n : Int) / 2 ^ (8 * j) % 256) = bv (UInt8.ofNat (n / 2 ^ (8 * j))) := by rw [bv_ofNat]; simp
      rw [hbv]
      clear hbv
      obtain ⟨wa, hwa, kba, bba, sa⟩ := alloc_cb wr 5 (bvs [UInt8.ofNat (n / 2 ^ (8 * j))])
      change wpList _ _ _ _ _ (wr.alloc (.cells (bvs [UInt8.ofNat (n / 2 ^ (8 * j))]).toArray 5))
      rw [← hwa]
      have ra : Rd wa 1 (.slice (some ⟨wr.heap.size, 0, none⟩) 1 1) 1 (bvs [UInt8.ofNat (n / 2 ^ (8 * j))]) := by have := kba.rdAll (by simp [maxLen]); simpa using this
      refine wpList_append_rd _ rfl (.tmp 11) (.tmp 18) 42 rfl (w.heap.size + 1) 5 i0 (.int .u8 0) 1 1 Try.underlying42 hi hi0 hi1 hi2 rfl (by decide) _ j (bvs (le n j)) rfl (own_fresh HO.out bba) _ 1 (bvs [UInt8.ofNat (n / 2 ^ (8 * j))]) rfl ra (bvs_one _) (by unfold maxLen; have := H8.out; omega) (by have := H8.out; omega) (by have := HZ.out; have := bba.size; omega) ?_
      intro v6 w6 hown6 hgr6 _ _
      have b6 : Below (w.heap.size + 1) wa w6 := (Below.refl _ wa).grown hgr6 (by have := HZ.out; have := bba.size; omega) (fun j hj => (HO.out.lt j hj).1)
      have b6' : Below (w.heap.size + 1) wr w6 := (bba.mono HZ.out).trans b6
      have K6 := Lib.hid (HK.out.below b6' (by omega))
      have Z6 : Hid (w.heap.size + 1 ≤ w6.heap.size) := Lib.hid (Nat.le_trans HZ.out b6'.size)
      have B6 : Hid (Below w.heap.size w w6) := Lib.hid (HB.out.trans (b6'.mono (by omega)))
      have O6 : Hid (w6.ownsRow (w.heap.size + 1) 5 1 v6 (j + 1) (bvs (le n (j + 1)))) := Lib.hid (by rw [le, bvs_append]; exact hown6)
      clear hown6 hgr6 b6 b6' hwa kba bba sa ra
      go_wp2
      go_roundw
      case rel => exact ⟨j + 1, by have := H8.out; omega, by go_num, O6.out, K6.out, Z6.out, B6.out⟩
      case measure => simp only [intOf]; have := H8.out; omega
    · have j8 : ¬ ((j : Int) < 8) := by omega
      have hj8 : j = 8 := by omega
      subst hj8
      clear h8
      go_wp2_with (at_builtin; apply Stop.mk)
      refine Stop.go ?_
      refine wpList_append_rd _ rfl (.tmp 20) (.tmp 21) 42 rfl (w.heap.size + 1) 5 i0 (.int .u8 0) 1 1 Try.underlying42 hi hi0 hi1 hi2 rfl (by decide) _ 8 (bvs (le n 8)) rfl HO.out _ k (bvs m) rfl (HV.out.fresh HB.out) (bvs_one _) (by unfold maxLen; have := HN.out.2; omega) (by have := HN.out.2; omega) HZ.out ?_
      intro v6 w6 hown6 hgr6 _ _
      have b6 : Below (w.heap.size + 1) wr w6 := (Below.refl _ wr).grown hgr6 HZ.out (fun j hj => (HO.out.lt j hj).1)
      have K6 := Lib.hid (HK.out.below b6 (by omega))
      have B6 : Hid (Below w.heap.size w w6) := Lib.hid (HB.out.trans (b6.mono (by omega)))
      have R6 : Hid (Rd w6 1 v6 (8 + k) (bvs (le n 8 ++ m))) := Lib.hid (by rw [bvs_append]; exact Rd.of_own hown6)
      clear hown6 hgr6 b6
      obtain ⟨a6, c6, rfl⟩ := R6.out.slice
      go_wp2_with fail
      refine (CT.out _ _ R6.out).mono ?_
      rintro e w7 ⟨rfl, b7⟩
      have K7 := Lib.hid (K6.out.fresh b7)
      have B7 := Lib.hid (B6.out.tr b7)
      clear b7 K6 B6 R6
      go_wp2_with (with_reducible refine stopStore 24 ?_)
      refine Stop.go ?_
      refine wpList_store_var rfl 24 (.tmp 4) (.tmp 23) rfl (w.heap.size) _ rfl _ (bvs Z) rfl K7.out (by simp [hZl.out]) (bvs_one _) (by rw [bvs_length, hZl.out]; exact infoHash) ?_
      intro wf kf of
      have BF : Hid (Below w.heap.size w wf) := Below.only B7.out of (by omega)
      have KF := Lib.hid kf
      clear kf of
      go_wp2
      exact bodyPost_ret (results_cell1 rfl _ _ (w.heap.size) _ _ _ _ rfl KF.out Try.underlying24 rfl (by simp [hZl.out, infoHash])) rfl ⟨rfl, BF.out⟩

theorem half_step (m n k : Nat) (h1 : 2 ^ m < n) (h2 : n ≤ 2 ^ (m + 1)) (hk : k ≤ m) : 2 * 2 ^ k < n ↔ k < m := by
  constructor
  · intro h
    rcases Nat.lt_or_ge k m with h3 | h3
    · exact h3
    · exfalso
      have : k = m := by omega
      subst this
      rw [Nat.pow_succ] at h2
      omega
  · intro h
    have := Nat.pow_le_pow_right (n := 2) (by decide) (show k + 1 ≤ m from h)
    rw [Nat.pow_succ] at this
    omega

set_option maxRecDepth 100000 in
set_option maxHeartbeats 400000 in
theorem half_any (w : World) (m n : Nat) (h1 : 2 ^ m < n) (h2 : n ≤ 2 ^ (m + 1)) (hm : m ≤ 20) :
    Calls Try.prog 109 #[.int .i64 (n : Int)] w fun e w' => e = .returned (.int .i64 ((2 ^ m : Nat) : Int)) ∧ w' = w := by
  have HM := Lib.hid (And.intro h1 (And.intro h2 hm))
  obtain ⟨Z, hZ⟩ : ∃ Z : Nat, Z = 2 ^ m := ⟨_, rfl⟩
  rw [← hZ]
  have HZ := Lib.hid hZ
  have hN : n ≤ 2097152 := by
    have := Nat.pow_le_pow_right (n := 2) (by decide) (show m + 1 ≤ 21 by omega)
    omega
  have iN : (n : Int) ≤ 2097152 := by omega
  clear h1 h2 hm hZ hN
  go_enter Try.func109, Try.ntmps109
  go_wp2
  go_loopw [3] (fun v3 wr => wr = w ∧ ∃ k p : Nat, k ≤ m ∧ p = 2 ^ k ∧ v3 = .int .i64 (p : Int))
    (fun v _ => n - (intOf v).toNat)
  case atStart => exact ⟨rfl, 0, 1, by omega, rfl, rfl⟩
  case round =>
    obtain ⟨rfl, k, p, hk, hp, rfl⟩ := hrel
    have hpp : 0 < p := by rw [hp]; exact Nat.pow_pos (by decide)
    have hs := half_step m n k HM.out.1 HM.out.2.1 hk
    rw [← hp] at hs
    have hpn : p < n := by
      have := Nat.pow_le_pow_right (n := 2) (by decide) hk
      have := HM.out.1
      omega
    have HP := Lib.hid hp
    have ip : (p : Int) < 2097152 := by omega
    clear hp
    by_cases hkm : k < m
    · have j1 : 2 * (p : Int) < (n : Int) := by have := hs.2 hkm; omega
      have HK := Lib.hid hkm
      have HPP := Lib.hid (And.intro hpp hpn)
      clear hs hkm hk hpp hpn
      go_wp2
      go_roundw
      case rel => exact ⟨trivial, k + 1, 2 * p, HK.out, by rw [HP.out, Nat.pow_succ]; omega, by go_num⟩
      case measure => simp only [intOf]; have := HPP.out; omega
    · have j1 : ¬ (2 * (p : Int) < (n : Int)) := by
        intro h
        exact hkm (hs.1 (by omega))
      have hpz : p = Z := by rw [HP.out, HZ.out, show k = m by omega]
      subst hpz
      clear hs hkm hk hpp hpn
      go_wp2
      go_ret
      exact ⟨rfl, rfl⟩

end Go.Proofs.Ytbabjepblakboaa

/- Merkle: the reference's roots and paths: the walks. -/
namespace Go.Proofs.Ytbabjepblakboaa
set_option linter.unusedVariables false
set_option linter.unusedSimpArgs false
open Go.RowKit Go.Lib

theorem Hs.take {w : World} {a : Option Addr} {n c : Nat} {l : List Bs} (h : Hs w (.slice a n c) l) (hn : n = l.length) (k : Nat) (hk : k ≤ n) : Hs w (.slice a k c) (l.take k) := by
  have h1 := h.part hn 0 k (by omega)
  have h2 : (if c = 0 then a else a.map (·.add (0 * 32))) = a := by
    rw [Nat.zero_mul]
    split
    · rfl
    · cases a <;> rfl
  rw [h2, Nat.sub_zero, List.drop_zero] at h1
  exact h1

theorem Hs.drop {w : World} {a : Option Addr} {n c : Nat} {l : List Bs} (h : Hs w (.slice a n c) l) (hn : n = l.length) (o : Nat) (ho : o ≤ n) : Hs w (.slice (if c = o then a else a.map (·.add (o * 32))) (n - o) (c - o)) (l.drop o) := by
  have h1 := h.part hn o (n - o) (by omega)
  rwa [List.take_of_length_le (by rw [List.length_drop]; omega)] at h1

theorem Hs.cap {w : World} {a : Option Addr} {n c : Nat} {l : List Bs} (h : Hs w (.slice a n c) l) : n ≤ c := by
  rcases h.2.2 with ⟨he, h0⟩ | ⟨ad, c', he, h1, h2, _⟩
  · simp only [Value.slice.injEq] at he
    omega
  · simp only [Value.slice.injEq] at he
    obtain ⟨_, rfl, rfl⟩ := he
    exact h1

theorem leftM_h32 (m : Nat) (l : List Bs) (h : H32 l) (h1 : 1 ≤ l.length) (h2 : l.length ≤ 2 ^ m) : (leftM knotB [] m l).length = 32 := by
  have h3 := upN_left knotB [] m l h1 h2
  have h4 := upN_h32 h m
  rw [h3] at h4
  exact h4 _ (by simp)

set_option maxRecDepth 100000 in
set_option maxHeartbeats 1000000 in
theorem rleft_any (m : Nat) (hm : m ≤ 20) : ∀ (w : World) (v : Value) (l : List Bs), Hs w v l → 1 ≤ l.length → l.length ≤ 2 ^ m →
    Calls Try.prog 108 #[v] w fun e w' => e = .returned (.agg (bvs (leftM knotB [] m (l.map leafB))).toArray) ∧ Below w.heap.size w w' := by
  induction m with
  | zero =>
    intro w v l h h1 h2
    have hl : l.length = 1 := by simp at h2; omega
    obtain ⟨x, rfl⟩ := List.length_eq_one_iff.1 hl
    obtain ⟨ad, c, rfl⟩ := h.isSome (n := 1) rfl (by decide)
    have hx := Lib.hid (h.1.get (i := 0) rfl)
    have hc : Hid (∀ j u, (bvs x)[j]? = some u → w.cell? (ad.add j) = some u) := Lib.hid (by have := h.elem' (i := 0) rfl; simpa [Addr.add] using this)
    have hZl : Hid ((leafB x).length = 32) := Lib.hid (leafB_length x)
    show Calls _ _ _ _ fun e w' => e = .returned (.agg (bvs (leafB x)).toArray) ∧ _
    clear h h1 h2 hl
    go_enter Try.func108, Try.ntmps108
    go_wp2_with (with_reducible refine stopAt 9 ?_)
    refine Stop.go ?_
    obtain ⟨w1, h1, k1, b1, s1⟩ := alloc_cb w 24 (bvs (List.replicate 32 0))
    change wpList _ _ _ _ _ (w.alloc (.cells (bvs (List.replicate 32 0)).toArray 24))
    rw [← h1]
    have K1 := Lib.hid k1
    have B1 := Lib.hid b1
    have C1 : Hid (∀ j u, (bvs x)[j]? = some u → w1.cell? (ad.add j) = some u) := Lib.hid (fun j u hj => by
      have h0 := hc.out j u hj
      rw [b1.cell (p := ad.add j) (block_lt_of_cell h0)]
      exact h0)
    clear h1 k1 b1 s1
    refine wpList_load_agg rfl 24 (.tmp 8) rfl (ad) rfl (bvs x) _ (C1.out) Try.underlying24 rfl (by rw [bvs_length, hx.out]; exact infoHash) ?_
    go_wp2_with fail
    refine (rleaf_any w1 x hx.out).mono ?_
    rintro e w2 ⟨rfl, b2⟩
    have K2 := Lib.hid (K1.out.fresh b2)
    have B2 := Lib.hid (B1.out.tr b2)
    clear b2
    go_wp2_with (with_reducible refine stopStore 24 ?_)
    refine Stop.go ?_
    refine wpList_store_var rfl 24 (.tmp 2) (.tmp 10) rfl (w.heap.size) _ rfl _ (bvs (leafB x)) rfl K2.out (by simp [hZl.out]) (bvs_one _) (by rw [bvs_length, hZl.out]; exact infoHash) ?_
    intro wf kf of
    have BF : Hid (Below w.heap.size w wf) := Below.only B2.out of (by omega)
    have KF := Lib.hid kf
    clear kf of
    go_wp2
    exact bodyPost_ret (results_cell1 rfl _ _ (w.heap.size) _ _ _ _ rfl KF.out Try.underlying24 rfl (by simp [hZl.out, infoHash])) rfl ⟨rfl, BF.out⟩
  | succ m ih =>
    intro w v l h h1 h2
    have ih := ih (by omega)
    rw [leftM]
    by_cases hle : l.length ≤ 2 ^ m
    · rw [if_pos (by rw [List.length_map]; exact hle)]
      exact ih w v l h h1 hle
    · rw [if_neg (by rw [List.length_map]; exact hle), ← List.map_take, ← List.map_drop]
      obtain ⟨a0, c0, rfl⟩ := h.slice
      obtain ⟨N, hN⟩ : ∃ N, N = l.length := ⟨_, rfl⟩
      rw [← hN] at h h1 h2 hle ⊢
      obtain ⟨p, hp⟩ : ∃ p, p = 2 ^ m := ⟨_, rfl⟩
      have CH := fun w0 => half_any w0 m N (by omega) h2 (by omega)
      rw [← hp] at hle CH ⊢
      have hpl : 2 ^ (m + 1) = p * 2 := by rw [hp, Nat.pow_succ]
      have ht : (l.take p).length = p := by rw [List.length_take]; omega
      have hd : (l.drop p).length = N - p := by rw [List.length_drop, hN]
      have hp0 : 0 < p := by rw [hp]; exact Nat.pow_pos (by decide)
      have C1 := fun w0 v0 h0 => ih w0 v0 (l.take p) h0 (by omega) (by omega)
      have C2 := fun w0 v0 h0 => ih w0 v0 (l.drop p) h0 (by omega) (by omega)
      obtain ⟨X, hX⟩ : ∃ X, X = leftM knotB [] m ((l.take p).map leafB) := ⟨_, rfl⟩
      obtain ⟨Y, hY⟩ : ∃ Y, Y = leftM knotB [] m ((l.drop p).map leafB) := ⟨_, rfl⟩
      rw [← hX] at C1
      rw [← hY] at C2
      rw [← hX, ← hY]
      have hXl : X.length = 32 := by rw [hX]; exact leftM_h32 m _ (leaves_h32 _) (by rw [List.length_map]; omega) (by rw [List.length_map]; omega)
      have hYl : Y.length = 32 := by rw [hY]; exact leftM_h32 m _ (leaves_h32 _) (by rw [List.length_map]; omega) (by rw [List.length_map]; omega)
      have bN : N ≤ 1048576 := by
        have := Nat.pow_le_pow_right (n := 2) (by decide) (show m + 1 ≤ 20 from hm)
        omega
      have hZl : Hid ((knotB X Y).length = 32) := Lib.hid (knotB_length _ _)
      have hcap := h.cap
      have i1 : ¬ ((N : Int) = 1) := by omega
      have i2 : (p : Int) ≤ (N : Int) := by omega
      have i3 : (N : Int) ≤ (c0 : Int) := by omega
      replace C1 := Lib.hid C1
      replace C2 := Lib.hid C2
      replace CH := Lib.hid CH
      have H := Lib.hid h
      have HL := Lib.hid (And.intro hXl (And.intro hYl (And.intro (show p ≤ N by omega) hN)))
      clear h h1 h2 hle hp hpl ht hd hp0 hX hY hXl hYl bN hcap ih hN
      go_enter Try.func108, Try.ntmps108
      go_wp2_with fail
      obtain ⟨w1, h1, k1, b1, s1⟩ := alloc_cb w 24 (bvs (List.replicate 32 0))
      change Calls _ _ _ (w.alloc (.cells (bvs (List.replicate 32 0)).toArray 24)) _
      rw [← h1]
      refine (CH.out _).mono ?_
      rintro e w2 ⟨rfl, rfl⟩
      have K1 : Hid (CB w2.drew 24 w.heap.size (bvs (List.replicate 32 0))) := Lib.hid k1
      have B1 : Hid (Below w.heap.size w w2.drew) := Lib.hid b1.drew
      have H1 : Hid (Hs w2.drew (.slice a0 N c0) l) := Lib.hid (H.out.fresh B1.out)
      clear h1 k1 b1 s1
      obtain ⟨A, hA⟩ : ∃ A : Option Addr, A = if c0 = p then a0 else a0.map (·.add (p * 32)) := ⟨_, rfl⟩
      have hA' := Lib.hid hA
      clear hA
      go_wp2_with fail
      refine pl_start 10 rfl (fun _ => True) (by kernel_rfl) ?_
      obtain ⟨w3, hw3⟩ : ∃ w3, w3 = w2.drew := ⟨_, rfl⟩
      rw [← hw3] at K1 B1 H1 ⊢
      clear hw3
      refine pl_take (i := 0) 14 rfl rfl rfl (by kernel_rfl) (by kernel_rfl) (by kernel_rfl) (by simp [Act.put]) trivial ?_
      apply Exists.intro
      refine And.intro (fun w' hS' => ?_) ?_
      · go_wp2
        exact ⟨trivial, rfl⟩
      refine pl_take (i := 1) 15 rfl rfl rfl (by kernel_rfl) (by kernel_rfl) (by kernel_rfl) (by simp [Act.put]) trivial ?_
      apply Exists.intro
      refine And.intro (fun w' hS' => ?_) ?_
      · go_wp2
        exact ⟨trivial, rfl⟩
      refine pl_take (i := 2) 16 rfl rfl rfl (by kernel_rfl) (by kernel_rfl) (by kernel_rfl) (by simp [Act.put]) trivial ?_
      apply Exists.intro
      refine And.intro (fun w' hS' => ?_) ?_
      · refine wpList_slice rfl 22 (.tmp 14) _ _ _ rfl (.slice a0 p c0) (run_slice_to Try.underlying22 infoHash a0 N c0 p (by omega)) ?_
        go_wp2
        exact ⟨trivial, rfl⟩
      refine pl_take (i := 4) 18 rfl rfl rfl (by kernel_rfl) (by kernel_rfl) (by kernel_rfl) (by simp [Act.put]) trivial ?_
      apply Exists.intro
      refine And.intro (fun w' hS' => ?_) ?_
      · go_wp2
        exact ⟨trivial, rfl⟩
      refine pl_take (i := 5) 19 rfl rfl rfl (by kernel_rfl) (by kernel_rfl) (by kernel_rfl) (by simp [Act.put]) trivial ?_
      apply Exists.intro
      refine And.intro (fun w' hS' => ?_) ?_
      · go_wp2
        exact ⟨trivial, rfl⟩
      refine pl_take (i := 6) 20 rfl rfl rfl (by kernel_rfl) (by kernel_rfl) (by kernel_rfl) (by simp [Act.put]) trivial ?_
      apply Exists.intro
      refine And.intro (fun w' hS' => ?_) ?_
      · refine wpList_slice rfl 22 (.tmp 18) _ _ _ rfl (.slice A _ _) (by rw [hA'.out]; exact run_slice_from Try.underlying22 infoHash a0 N c0 p (by omega)) ?_
        go_wp2
        exact ⟨trivial, rfl⟩
      refine pl_heavy (i := 3) rfl (by kernel_rfl) ?_
      go_wp2_with fail
      refine (C1.out w3 _ (H1.out.take HL.out.2.2.2 p HL.out.2.2.1)).mono ?_
      rintro e w4 ⟨rfl, b4⟩
      have K4 := Lib.hid (K1.out.fresh b4)
      have B4 := Lib.hid (B1.out.tr b4)
      have H4 := Lib.hid (H1.out.fresh b4)
      clear b4 K1 B1 H1
      go_wp2
      first
        | refine And.intro trivial ?_
        | skip
      refine pl_heavy (i := 7) rfl (by kernel_rfl) ?_
      go_wp2_with fail
      refine (C2.out w4 _ (by have := H4.out.drop HL.out.2.2.2 p HL.out.2.2.1; rw [← hA'.out] at this; exact this)).mono ?_
      rintro e w5 ⟨rfl, b5⟩
      have K5 := Lib.hid (K4.out.fresh b5)
      have B5 := Lib.hid (B4.out.tr b5)
      clear b5 K4 B4 H4
      go_wp2
      first
        | refine And.intro trivial ?_
        | skip
      refine pl_heavy (i := 8) rfl (by kernel_rfl) ?_
      go_wp2_with fail
      refine (rknot_any w5 X Y HL.out.1 HL.out.2.1).mono ?_
      rintro e w6 ⟨rfl, b6⟩
      have K6 := Lib.hid (K5.out.fresh b6)
      have B6 := Lib.hid (B5.out.tr b6)
      clear b6 K5 B5
      go_wp2
      first
        | refine And.intro trivial ?_
        | skip
      refine pl_heavy (i := 9) rfl (by kernel_rfl) ?_
      refine wpList_store_var rfl 24 (.tmp 2) (.tmp 22) rfl (w.heap.size) _ rfl _ (bvs (knotB X Y)) rfl K6.out (by simp [hZl.out]) (bvs_one _) (by rw [bvs_length, hZl.out]; exact infoHash) ?_
      intro wf kf of
      have BF : Hid (Below w.heap.size w wf) := Below.only B6.out of (by omega)
      have KF := Lib.hid kf
      clear kf
      go_wp2
      first
        | refine And.intro trivial ?_
        | skip
      refine pl_done (by kernel_rfl) ?_
      go_wp2
      exact bodyPost_ret (results_cell1 rfl _ _ (w.heap.size) _ _ _ _ rfl KF.out Try.underlying24 rfl (by simp [hZl.out, infoHash])) rfl ⟨rfl, BF.out⟩

end Go.Proofs.Ytbabjepblakboaa

/- Merkle: the reference's roots, sizes, paths: the walks. -/
namespace Go.Proofs.Ytbabjepblakboaa
set_option linter.unusedVariables false
set_option linter.unusedSimpArgs false
open Go.RowKit Go.Lib

set_option maxRecDepth 100000 in
set_option maxHeartbeats 1000000 in
theorem rroot_any (w : World) (v : Value) (l : List Bs) (h : Hs w v l) (hl : l.length ≤ 1048576) :
    Calls Try.prog 50 #[v] w fun e w' => e = .returned (.agg (bvs (rootB l)).toArray) ∧ Below w.heap.size w w' := by
  obtain ⟨a0, c0, rfl⟩ := h.slice
  obtain ⟨Z, hZ⟩ : ∃ Z, Z = rootB l := ⟨_, rfl⟩
  have hZl : Hid (Z.length = 32) := Lib.hid (by rw [hZ]; exact topB_length _ _)
  obtain ⟨N, hN⟩ : ∃ N, N = l.length := ⟨_, rfl⟩
  rw [← hZ]
  by_cases h0 : N = 0
  · have hl0 : l = [] := List.eq_nil_of_length_eq_zero (by omega)
    have hz : Hid (Z = topB 0 []) := Lib.hid (by rw [hZ, hl0]; rfl)
    rw [← hN]
    subst h0
    clear h hl hZ hN hl0
    go_enter Try.func50, Try.ntmps50
    go_wp2_with fail
    obtain ⟨w1, h1, k1, b1, s1⟩ := alloc_cb w 24 (bvs (List.replicate 32 0))
    change Calls _ _ _ (w.alloc (.cells (bvs (List.replicate 32 0)).toArray 24)) _
    rw [← h1]
    refine (rtop_any w1 0 (.slice none 0 0) [] (by omega) (Rd.nil _ _) (by simp)).mono ?_
    rintro e w2 ⟨rfl, b2⟩
    rw [← hz.out]
    have B2 := Lib.hid (b1.tr b2)
    have K2 := Lib.hid (k1.fresh b2)
    clear b1 b2 k1 s1 h1
    go_wp2_with (with_reducible refine stopStore 24 ?_)
    refine Stop.go ?_
    refine wpList_store_var rfl 24 (.tmp 2) (.tmp 7) rfl (w.heap.size) _ rfl _ (bvs Z) rfl K2.out (by simp [hZl.out]) (bvs_one _) (by rw [bvs_length, hZl.out]; exact infoHash) ?_
    intro wf kf of
    have BF : Hid (Below w.heap.size w wf) := Below.only B2.out of (by omega)
    have KF := Lib.hid kf
    clear kf of
    go_wp2
    exact bodyPost_ret (results_cell1 rfl _ _ (w.heap.size) _ _ _ _ rfl KF.out Try.underlying24 rfl (by simp [hZl.out, infoHash])) rfl ⟨rfl, BF.out⟩
  · obtain ⟨Y, hY⟩ : ∃ Y, Y = leftM knotB [] 20 (l.map leafB) := ⟨_, rfl⟩
    have hz : Hid (Z = topB N Y) := Lib.hid (by rw [hZ, rootB, if_neg (by intro e; rw [e] at hN; simp at hN; omega), hY, hN])
    have CL := fun w0 h0 => rleft_any 20 (by omega) w0 (.slice a0 l.length c0) l h0 (by omega) (by omega)
    rw [← hY] at CL
    have hYl : Hid (Y.length = 32) := Lib.hid (by rw [hY]; exact leftM_h32 20 _ (leaves_h32 _) (by rw [List.length_map]; omega) (by rw [List.length_map]; omega))
    rw [← hN] at CL h hl ⊢
    replace CL := Lib.hid CL
    have H := Lib.hid h
    have i1 : ¬ ((N : Int) = 0) := by omega
    have HL := Lib.hid hl
    clear h hl hN hZ hY h0
    go_enter Try.func50, Try.ntmps50
    go_wp2_with fail
    obtain ⟨w1, h1, k1, b1, s1⟩ := alloc_cb w 24 (bvs (List.replicate 32 0))
    change Calls _ _ _ (w.alloc (.cells (bvs (List.replicate 32 0)).toArray 24)) _
    rw [← h1]
    refine (CL.out w1 (H.out.fresh b1)).mono ?_
    rintro e w2 ⟨rfl, b2⟩
    have B2 := Lib.hid (b1.tr b2)
    have K2 := Lib.hid (k1.fresh b2)
    clear b1 b2 k1 s1 h1
    go_wp2_with (with_reducible refine stopStore 24 ?_)
    refine Stop.go ?_
    refine wpList_store_var rfl 24 (.tmp 3) (.tmp 9) rfl w2.heap.size _ rfl _ (bvs Y) rfl (heap_alloc_new w2 _) (by simp [hYl.out]) (bvs_one _) (by rw [bvs_length, hYl.out]; exact infoHash) ?_
    intro w3 kw3 ow3
    have bw3 : Below w2.heap.size w2 w3 := Below.only ((Below.refl _ w2).alloc (Nat.le_refl _) _) ow3 (Nat.le_refl _)
    replace kw3 : CB w3 24 w2.heap.size (bvs Y) := kw3
    clear ow3
    have B3 := Lib.hid (B2.out.tr bw3)
    have K3 := Lib.hid (K2.out.fresh bw3)
    have R3 := Lib.hid (CB.rd32 kw3 hYl.out)
    clear bw3 kw3 B2 K2
    go_wp2_with fail
    refine (rtop_any w3 N _ Y (by have := HL.out; omega) R3.out (by rw [hYl.out]; decide)).mono ?_
    rintro e w4 ⟨rfl, b4⟩
    rw [← hz.out]
    have B4 := Lib.hid (B3.out.tr b4)
    have K4 := Lib.hid (K3.out.fresh b4)
    clear b4 R3 B3 K3
    go_wp2_with (with_reducible refine stopStore 24 ?_)
    refine Stop.go ?_
    refine wpList_store_var rfl 24 (.tmp 2) (.tmp 13) rfl (w.heap.size) _ rfl _ (bvs Z) rfl K4.out (by simp [hZl.out]) (bvs_one _) (by rw [bvs_length, hZl.out]; exact infoHash) ?_
    intro wf kf of
    have BF : Hid (Below w.heap.size w wf) := Below.only B4.out of (by omega)
    have KF := Lib.hid kf
    clear kf of
    go_wp2
    exact bodyPost_ret (results_cell1 rfl _ _ (w.heap.size) _ _ _ _ rfl KF.out Try.underlying24 rfl (by simp [hZl.out, infoHash])) rfl ⟨rfl, BF.out⟩

set_option maxRecDepth 100000 in
set_option maxHeartbeats 1000000 in
theorem rsize_any (m : Nat) (hm : m ≤ 20) : ∀ (w : World) (n c : Nat), n < c → c ≤ 2 ^ m →
    Calls Try.prog 52 #[.int .i64 (n : Int), .int .i64 (c : Int)] w fun e w' => e = .returned (.int .i64 (sizeM m n c : Int)) ∧ w' = w := by
  induction m with
  | zero =>
    intro w n c h1 h2
    have hc : c = 1 := by simp at h2; omega
    subst hc
    rw [show sizeM 0 n 1 = 0 from rfl]
    clear h1 h2
    go_enter Try.func52, Try.ntmps52
    go_wp2
    go_ret
    exact ⟨rfl, rfl⟩
  | succ m ih =>
    intro w n c h1 h2
    have ih := ih (by omega)
    rw [sizeM]
    by_cases hle : c ≤ 2 ^ m
    · rw [if_pos hle]
      exact ih w n c h1 hle
    · rw [if_neg hle]
      obtain ⟨p, hp⟩ : ∃ p, p = 2 ^ m := ⟨_, rfl⟩
      have CH := fun w0 => half_any w0 m c (by omega) h2 (by omega)
      have hpl : 2 ^ (m + 1) = p * 2 := by rw [hp, Nat.pow_succ]
      have hp0 : 0 < p := by rw [hp]; exact Nat.pow_pos (by decide)
      have hpb : p ≤ 1048576 := by rw [hp]; exact Nat.pow_le_pow_right (by decide) (show m ≤ 20 by omega)
      rw [← hp] at hle CH ih ⊢
      have i1 : ¬ ((c : Int) ≤ 1) := by omega
      have bp : (p : Int) ≤ 1048576 := by omega
      have bc : (c : Int) ≤ 2097152 := by omega
      have bn : (n : Int) < (c : Int) := by omega
      by_cases hk : n < p
      · rw [if_pos hk]
        have CI := fun w0 => ih w0 n p hk (Nat.le_refl _)
        obtain ⟨s, hs⟩ : ∃ s, s = sizeM m n p := ⟨_, rfl⟩
        have hsl : s ≤ 20 := by rw [hs]; have := sizeM_le m n p; omega
        rw [← hs] at CI ⊢
        have bs : (s : Int) ≤ 20 := by omega
        have i2 : (n : Int) < (p : Int) := by omega
        replace CI := Lib.hid CI
        replace CH := Lib.hid CH
        clear ih h1 h2 hle hpl hp0 hpb hk hs hsl hp
        go_enter Try.func52, Try.ntmps52
        go_wp2_with fail
        refine (CH.out _).mono ?_
        rintro e w1 ⟨rfl, rfl⟩
        go_wp2_with fail
        refine (CI.out _).mono ?_
        rintro e w2 ⟨rfl, rfl⟩
        go_wp2
        go_ret
        exact ⟨by go_num, rfl⟩
      · rw [if_neg hk]
        obtain ⟨n', hn'⟩ : ∃ n', n' = n - p := ⟨_, rfl⟩
        obtain ⟨c', hc'⟩ : ∃ c', c' = c - p := ⟨_, rfl⟩
        have CI := fun w0 => ih w0 n' c' (by omega) (by omega)
        rw [← hn', ← hc']
        obtain ⟨s, hs⟩ : ∃ s, s = sizeM m n' c' := ⟨_, rfl⟩
        have hsl : s ≤ 20 := by rw [hs]; have := sizeM_le m n' c'; omega
        rw [← hs] at CI ⊢
        have bs : (s : Int) ≤ 20 := by omega
        have i2 : ¬ ((n : Int) < (p : Int)) := by omega
        have i3 : (n : Int) - (p : Int) = (n' : Int) := by omega
        have i4 : (c : Int) - (p : Int) = (c' : Int) := by omega
        replace CI := Lib.hid CI
        replace CH := Lib.hid CH
        clear ih h1 h2 hle hpl hp0 hpb hk hs hsl hn' hc' hp
        go_enter Try.func52, Try.ntmps52
        go_wp2_with fail
        refine (CH.out _).mono ?_
        rintro e w1 ⟨rfl, rfl⟩
        go_wp2_with fail
        refine (CI.out _).mono ?_
        rintro e w2 ⟨rfl, rfl⟩
        go_wp2
        go_ret
        exact ⟨by go_num, rfl⟩

set_option maxRecDepth 100000 in
set_option maxHeartbeats 2000000 in
theorem rpath_any (m : Nat) (hm : m ≤ 20) : ∀ (w : World) (n : Nat) (v : Value) (l : List Bs), Hs w v l → n < l.length → l.length ≤ 2 ^ m →
    Calls Try.prog 54 #[.int .i64 (n : Int), v] w fun e w' => ∃ v', e = .returned v' ∧ Ho w' w.heap.size v' (pathM knotB [] m n (l.map leafB)) ∧ Below w.heap.size w w' := by
  obtain ⟨i0, hi, hz0, hz1, hz2⟩ := info_parts infoHash3
  induction m with
  | zero =>
    intro w n v l h h1 h2
    have hl : l.length = 1 := by simp at h2; omega
    obtain ⟨a0, c0, rfl⟩ := h.slice' hl
    rw [show pathM knotB [] 0 n (l.map leafB) = [] from rfl]
    clear h h1 h2
    go_enter Try.func54, Try.ntmps54
    go_wp2
    go_ret
    exact ⟨_, rfl, Ho.nil _ _, Below.refl _ _⟩
  | succ m ih =>
    intro w n v l h h1 h2
    have ih := ih (by omega)
    rw [pathM]
    by_cases hle : l.length ≤ 2 ^ m
    · rw [if_pos (by rw [List.length_map]; exact hle)]
      exact ih w n v l h h1 hle
    · rw [if_neg (by rw [List.length_map]; exact hle), ← List.map_take, ← List.map_drop]
      obtain ⟨a0, c0, rfl⟩ := h.slice
      obtain ⟨N, hN⟩ : ∃ N, N = l.length := ⟨_, rfl⟩
      rw [← hN] at h h1 h2 hle ⊢
      obtain ⟨p, hp⟩ : ∃ p, p = 2 ^ m := ⟨_, rfl⟩
      have CH := fun w0 => half_any w0 m N (by omega) h2 (by omega)
      have hpl : 2 ^ (m + 1) = p * 2 := by rw [hp, Nat.pow_succ]
      have ht : (l.take (2 ^ m)).length = 2 ^ m := by rw [List.length_take]; omega
      have hd : (l.drop (2 ^ m)).length = N - 2 ^ m := by rw [List.length_drop, hN]
      rw [← hp] at hle CH ih ht hd ⊢
      have hp0 : 0 < p := by rw [hp]; exact Nat.pow_pos (by decide)
      have hpb : p ≤ 1048576 := by rw [hp]; exact Nat.pow_le_pow_right (by decide) (show m ≤ 20 by omega)
      have hcap := h.cap
      have i1 : ¬ ((N : Int) ≤ 1) := by omega
      have i2 : (p : Int) ≤ (N : Int) := by omega
      have i3 : (N : Int) ≤ (c0 : Int) := by omega
      by_cases hk : n < p
      · rw [if_pos hk]
        have C1 := fun w0 v0 h0 => ih w0 n v0 (l.take p) h0 (by omega) (by omega)
        have C2 := fun w0 v0 h0 => rleft_any m (by omega) w0 v0 (l.drop p) h0 (by omega) (by omega)
        obtain ⟨Pt, hPt⟩ : ∃ x, x = pathM knotB [] m n ((l.take p).map leafB) := ⟨_, rfl⟩
        obtain ⟨Y, hY⟩ : ∃ Y, Y = leftM knotB [] m ((l.drop p).map leafB) := ⟨_, rfl⟩
        rw [← hPt] at C1
        rw [← hY] at C2
        rw [← hPt, ← hY]
        have hYl : Y.length = 32 := by rw [hY]; exact leftM_h32 m _ (leaves_h32 _) (by rw [List.length_map]; omega) (by rw [List.length_map]; omega)
        have hPb : Pt.length ≤ 20 := by rw [hPt, pathM_length _ _ _ _ _ (by rw [List.length_map]; omega)]; have := sizeM_le m n (((l.take p).map leafB).length); omega
        have i4 : (n : Int) < (p : Int) := by omega
        replace C1 := Lib.hid C1
        replace C2 := Lib.hid C2
        replace CH := Lib.hid CH
        have H := Lib.hid h
        have HL := Lib.hid (And.intro hYl (And.intro hPb (And.intro (show p ≤ N by omega) hN)))
        clear h h1 h2 hle hp hpl ht hd hp0 hpb hPt hY hYl hPb hcap ih hN hk
        go_enter Try.func54, Try.ntmps54
        go_wp2_with fail
        refine (CH.out _).mono ?_
        rintro e w2 ⟨rfl, rfl⟩
        obtain ⟨A, hA⟩ : ∃ A : Option Addr, A = if c0 = p then a0 else a0.map (·.add (p * 32)) := ⟨_, rfl⟩
        have hA' := Lib.hid hA
        clear hA
        have B1 : Hid (Below w2.heap.size w2 w2.drew) := Lib.hid (Below.refl _ w2).drew
        have H1 : Hid (Hs w2.drew (.slice a0 N c0) l) := Lib.hid (H.out.fresh B1.out)
        go_wp2_with fail
        refine pl_start 12 rfl (fun _ => True) (by kernel_rfl) ?_
        obtain ⟨w3, hw3⟩ : ∃ w3, w3 = w2.drew := ⟨_, rfl⟩
        rw [← hw3] at B1 H1 ⊢
        have Z3 : Hid (w3.heap.size = w2.heap.size) := Lib.hid (by rw [hw3]; rfl)
        clear hw3
        refine pl_take (i := 0) 15 rfl rfl rfl (by kernel_rfl) (by kernel_rfl) (by kernel_rfl) (by simp [Act.put]) trivial ?_
        apply Exists.intro
        refine And.intro (fun w' hS' => ?_) ?_
        · go_wp2
          exact ⟨trivial, rfl⟩
        refine pl_take (i := 1) 16 rfl rfl rfl (by kernel_rfl) (by kernel_rfl) (by kernel_rfl) (by simp [Act.put]) trivial ?_
        apply Exists.intro
        refine And.intro (fun w' hS' => ?_) ?_
        · go_wp2
          exact ⟨trivial, rfl⟩
        refine pl_take (i := 2) 17 rfl rfl rfl (by kernel_rfl) (by kernel_rfl) (by kernel_rfl) (by simp [Act.put]) trivial ?_
        apply Exists.intro
        refine And.intro (fun w' hS' => ?_) ?_
        · go_wp2
          exact ⟨trivial, rfl⟩
        refine pl_take (i := 3) 18 rfl rfl rfl (by kernel_rfl) (by kernel_rfl) (by kernel_rfl) (by simp [Act.put]) trivial ?_
        apply Exists.intro
        refine And.intro (fun w' hS' => ?_) ?_
        · refine wpList_slice rfl 22 (.tmp 16) _ _ _ rfl (.slice a0 p c0) (run_slice_to Try.underlying22 infoHash a0 N c0 p (by omega)) ?_
          go_wp2
          exact ⟨trivial, rfl⟩
        refine pl_take (i := 5) 20 rfl rfl rfl (by kernel_rfl) (by kernel_rfl) (by kernel_rfl) (by simp [Act.put]) trivial ?_
        apply Exists.intro
        refine And.intro (fun w' hS' => ?_) ?_
        · go_wp2
          exact ⟨trivial, rfl⟩
        refine pl_take (i := 6) 21 rfl rfl rfl (by kernel_rfl) (by kernel_rfl) (by kernel_rfl) (by simp [Act.put]) trivial ?_
        apply Exists.intro
        refine And.intro (fun w' hS' => ?_) ?_
        · go_wp2
          exact ⟨trivial, rfl⟩
        refine pl_take (i := 7) 22 rfl rfl rfl (by kernel_rfl) (by kernel_rfl) (by kernel_rfl) (by simp [Act.put]) trivial ?_
        apply Exists.intro
        refine And.intro (fun w' hS' => ?_) ?_
        · refine wpList_slice rfl 22 (.tmp 20) _ _ _ rfl (.slice A _ _) (by rw [hA'.out]; exact run_slice_from Try.underlying22 infoHash a0 N c0 p (by omega)) ?_
          go_wp2
          exact ⟨trivial, rfl⟩
        refine pl_heavy (i := 4) rfl (by kernel_rfl) ?_
        go_wp2_with fail
        refine (C1.out w3 _ (H1.out.take HL.out.2.2.2 p HL.out.2.2.1)).mono ?_
        rintro e w4 ⟨v4, rfl, o4, b4⟩
        have O4 : Hid (Ho w4 w2.heap.size v4 Pt) := Lib.hid (by rw [← Z3.out]; exact o4)
        have B4 := Lib.hid (B1.out.tr b4)
        have H4 := Lib.hid (H1.out.fresh b4)
        obtain ⟨a4, c4, rfl⟩ := o4.slice
        clear b4 o4 B1 H1
        go_wp2
        first
          | refine And.intro trivial ?_
          | skip
        refine pl_heavy (i := 8) rfl (by kernel_rfl) ?_
        go_wp2_with fail
        refine (C2.out w4 _ (by have := H4.out.drop HL.out.2.2.2 p HL.out.2.2.1; rw [← hA'.out] at this; exact this)).mono ?_
        rintro e w5 ⟨rfl, b5⟩
        have O5 := Lib.hid (O4.out.fresh b5)
        have B5 := Lib.hid (B4.out.tr b5)
        clear b5 O4 B4 H4
        go_wp2
        first
          | refine And.intro trivial ?_
          | skip
        refine pl_heavy (i := 9) rfl (by kernel_rfl) ?_
        refine wpList_buildH rfl 1 _ rfl ([Y]) (H32.one HL.out.1) rfl (by decide) (by decide) (by kernel_rfl) ?_
        intro w6 p6 b6 s6
        have O6 := Lib.hid (O5.out.fresh b6)
        have B6 := Lib.hid (B5.out.tr b6)
        have P6 := Lib.hid p6
        clear p6 b6 s6 O5 B5
        go_wp2
        first
          | refine And.intro trivial ?_
          | skip
        refine pl_heavy (i := 10) rfl (by kernel_rfl) ?_
        refine wpList_append_rd _ rfl (.tmp 19) (.tmp 24) 22 rfl w2.heap.size 24 i0 _ 32 32 Try.underlying22 hi hz0 hz1 hz2 (by simp [Value.cells]) (by decide) _ Pt.length (bvs Pt.flatten) rfl O6.out.2 _ 1 _ rfl P6.out.2 (bvs_one _) (by unfold maxLen; have := HL.out.2.1; omega) (by have := HL.out.2.1; omega) B6.out.size ?_
        intro v7 w7 hown7 hgr7 _ _
        have B7 : Hid (Below w2.heap.size w2 w7) := B6.out.grown hgr7 B6.out.size (fun j hj => (O6.out.2.lt j hj).1)
        have O7 : Hid (Ho w7 w2.heap.size v7 (Pt ++ [Y])) := Lib.hid ⟨O6.out.1.append P6.out.1, by rw [List.flatten_append, bvs_append, List.length_append]; exact hown7⟩
        clear hown7 hgr7 O6 B6 P6
        go_wp2
        first
          | refine And.intro trivial ?_
          | skip
        refine pl_heavy (i := 11) rfl (by kernel_rfl) ?_
        go_wp2
        first
          | refine And.intro trivial ?_
          | skip
        refine pl_done (by kernel_rfl) ?_
        go_wp2
        go_ret
        exact ⟨_, rfl, O7.out, B7.out⟩
      · rw [if_neg hk]
        obtain ⟨n', hn'⟩ : ∃ n', n' = n - p := ⟨_, rfl⟩
        rw [← hn']
        have C1 := fun w0 v0 h0 => ih w0 n' v0 (l.drop p) h0 (by omega) (by omega)
        have C2 := fun w0 v0 h0 => rleft_any m (by omega) w0 v0 (l.take p) h0 (by omega) (by omega)
        obtain ⟨Pt, hPt⟩ : ∃ x, x = pathM knotB [] m n' ((l.drop p).map leafB) := ⟨_, rfl⟩
        obtain ⟨Y, hY⟩ : ∃ Y, Y = leftM knotB [] m ((l.take p).map leafB) := ⟨_, rfl⟩
        rw [← hPt] at C1
        rw [← hY] at C2
        rw [← hPt, ← hY]
        have hYl : Y.length = 32 := by rw [hY]; exact leftM_h32 m _ (leaves_h32 _) (by rw [List.length_map]; omega) (by rw [List.length_map]; omega)
        have hPb : Pt.length ≤ 20 := by rw [hPt, pathM_length _ _ _ _ _ (by rw [List.length_map]; omega)]; have := sizeM_le m n' (((l.drop p).map leafB).length); omega
        have i4 : ¬ ((n : Int) < (p : Int)) := by omega
        have i5 : (n : Int) - (p : Int) = (n' : Int) := by omega
        have i6 : (n : Int) ≤ 2097152 := by omega
        replace C1 := Lib.hid C1
        replace C2 := Lib.hid C2
        replace CH := Lib.hid CH
        have H := Lib.hid h
        have HL := Lib.hid (And.intro hYl (And.intro hPb (And.intro (show p ≤ N by omega) hN)))
        clear h h1 h2 hle hp hpl ht hd hp0 hpb hPt hY hYl hPb hcap ih hN hk hn'
        go_enter Try.func54, Try.ntmps54
        go_wp2_with fail
        refine (CH.out _).mono ?_
        rintro e w2 ⟨rfl, rfl⟩
        obtain ⟨A, hA⟩ : ∃ A : Option Addr, A = if c0 = p then a0 else a0.map (·.add (p * 32)) := ⟨_, rfl⟩
        have hA' := Lib.hid hA
        clear hA
        have B1 : Hid (Below w2.heap.size w2 w2.drew) := Lib.hid (Below.refl _ w2).drew
        have H1 : Hid (Hs w2.drew (.slice a0 N c0) l) := Lib.hid (H.out.fresh B1.out)
        go_wp2_with fail
        refine pl_start 14 rfl (fun _ => True) (by kernel_rfl) ?_
        obtain ⟨w3, hw3⟩ : ∃ w3, w3 = w2.drew := ⟨_, rfl⟩
        rw [← hw3] at B1 H1 ⊢
        have Z3 : Hid (w3.heap.size = w2.heap.size) := Lib.hid (by rw [hw3]; rfl)
        clear hw3
        refine pl_take (i := 0) 26 rfl rfl rfl (by kernel_rfl) (by kernel_rfl) (by kernel_rfl) (by simp [Act.put]) trivial ?_
        apply Exists.intro
        refine And.intro (fun w' hS' => ?_) ?_
        · go_wp2
          exact ⟨trivial, rfl⟩
        refine pl_take (i := 1) 27 rfl rfl rfl (by kernel_rfl) (by kernel_rfl) (by kernel_rfl) (by simp [Act.put]) trivial ?_
        apply Exists.intro
        refine And.intro (fun w' hS' => ?_) ?_
        · go_wp2
          exact ⟨trivial, rfl⟩
        refine pl_take (i := 2) 28 rfl rfl rfl (by kernel_rfl) (by kernel_rfl) (by kernel_rfl) (by simp [Act.put]) trivial ?_
        apply Exists.intro
        refine And.intro (fun w' hS' => ?_) ?_
        · go_wp2
          exact ⟨trivial, rfl⟩
        refine pl_take (i := 3) 29 rfl rfl rfl (by kernel_rfl) (by kernel_rfl) (by kernel_rfl) (by simp [Act.put]) trivial ?_
        apply Exists.intro
        refine And.intro (fun w' hS' => ?_) ?_
        · go_wp2
          exact ⟨trivial, rfl⟩
        refine pl_take (i := 4) 30 rfl rfl rfl (by kernel_rfl) (by kernel_rfl) (by kernel_rfl) (by simp [Act.put]) trivial ?_
        apply Exists.intro
        refine And.intro (fun w' hS' => ?_) ?_
        · go_wp2
          exact ⟨trivial, rfl⟩
        refine pl_take (i := 5) 31 rfl rfl rfl (by kernel_rfl) (by kernel_rfl) (by kernel_rfl) (by simp [Act.put]) trivial ?_
        apply Exists.intro
        refine And.intro (fun w' hS' => ?_) ?_
        · refine wpList_slice rfl 22 (.tmp 29) _ _ _ rfl (.slice A _ _) (by rw [hA'.out]; exact run_slice_from Try.underlying22 infoHash a0 N c0 p (by omega)) ?_
          go_wp2
          exact ⟨trivial, rfl⟩
        refine pl_take (i := 7) 33 rfl rfl rfl (by kernel_rfl) (by kernel_rfl) (by kernel_rfl) (by simp [Act.put]) trivial ?_
        apply Exists.intro
        refine And.intro (fun w' hS' => ?_) ?_
        · go_wp2
          exact ⟨trivial, rfl⟩
        refine pl_take (i := 8) 34 rfl rfl rfl (by kernel_rfl) (by kernel_rfl) (by kernel_rfl) (by simp [Act.put]) trivial ?_
        apply Exists.intro
        refine And.intro (fun w' hS' => ?_) ?_
        · go_wp2
          exact ⟨trivial, rfl⟩
        refine pl_take (i := 9) 35 rfl rfl rfl (by kernel_rfl) (by kernel_rfl) (by kernel_rfl) (by simp [Act.put]) trivial ?_
        apply Exists.intro
        refine And.intro (fun w' hS' => ?_) ?_
        · refine wpList_slice rfl 22 (.tmp 33) _ _ _ rfl (.slice a0 p c0) (run_slice_to Try.underlying22 infoHash a0 N c0 p (by omega)) ?_
          go_wp2
          exact ⟨trivial, rfl⟩
        refine pl_heavy (i := 6) rfl (by kernel_rfl) ?_
        go_wp2_with fail
        refine (C1.out w3 _ (by have := H1.out.drop HL.out.2.2.2 p HL.out.2.2.1; rw [← hA'.out] at this; exact this)).mono ?_
        rintro e w4 ⟨v4, rfl, o4, b4⟩
        have O4 : Hid (Ho w4 w2.heap.size v4 Pt) := Lib.hid (by rw [← Z3.out]; exact o4)
        have B4 := Lib.hid (B1.out.tr b4)
        have H4 := Lib.hid (H1.out.fresh b4)
        obtain ⟨a4, c4, rfl⟩ := o4.slice
        clear b4 o4 B1 H1
        go_wp2
        first
          | refine And.intro trivial ?_
          | skip
        refine pl_heavy (i := 10) rfl (by kernel_rfl) ?_
        go_wp2_with fail
        refine (C2.out w4 _ (H4.out.take HL.out.2.2.2 p HL.out.2.2.1)).mono ?_
        rintro e w5 ⟨rfl, b5⟩
        have O5 := Lib.hid (O4.out.fresh b5)
        have B5 := Lib.hid (B4.out.tr b5)
        clear b5 O4 B4 H4
        go_wp2
        first
          | refine And.intro trivial ?_
          | skip
        refine pl_heavy (i := 11) rfl (by kernel_rfl) ?_
        refine wpList_buildH rfl 1 _ rfl ([Y]) (H32.one HL.out.1) rfl (by decide) (by decide) (by kernel_rfl) ?_
        intro w6 p6 b6 s6
        have O6 := Lib.hid (O5.out.fresh b6)
        have B6 := Lib.hid (B5.out.tr b6)
        have P6 := Lib.hid p6
        clear p6 b6 s6 O5 B5
        go_wp2
        first
          | refine And.intro trivial ?_
          | skip
        refine pl_heavy (i := 12) rfl (by kernel_rfl) ?_
        refine wpList_append_rd _ rfl (.tmp 32) (.tmp 37) 22 rfl w2.heap.size 24 i0 _ 32 32 Try.underlying22 hi hz0 hz1 hz2 (by simp [Value.cells]) (by decide) _ Pt.length (bvs Pt.flatten) rfl O6.out.2 _ 1 _ rfl P6.out.2 (bvs_one _) (by unfold maxLen; have := HL.out.2.1; omega) (by have := HL.out.2.1; omega) B6.out.size ?_
        intro v7 w7 hown7 hgr7 _ _
        have B7 : Hid (Below w2.heap.size w2 w7) := B6.out.grown hgr7 B6.out.size (fun j hj => (O6.out.2.lt j hj).1)
        have O7 : Hid (Ho w7 w2.heap.size v7 (Pt ++ [Y])) := Lib.hid ⟨O6.out.1.append P6.out.1, by rw [List.flatten_append, bvs_append, List.length_append]; exact hown7⟩
        clear hown7 hgr7 O6 B6 P6
        go_wp2
        first
          | refine And.intro trivial ?_
          | skip
        refine pl_heavy (i := 13) rfl (by kernel_rfl) ?_
        go_wp2
        first
          | refine And.intro trivial ?_
          | skip
        refine pl_done (by kernel_rfl) ?_
        go_wp2
        go_ret
        exact ⟨_, rfl, O7.out, B7.out⟩

end Go.Proofs.Ytbabjepblakboaa

/- Merkle: what the reference says of a path: the walks. -/
namespace Go.Proofs.Ytbabjepblakboaa
set_option linter.unusedVariables false
set_option linter.unusedSimpArgs false
open Go.RowKit Go.Lib

theorem leadM_h32 (m n c : Nat) (a : Bs) (hs : List Bs) (ha : a.length = 32) : (leadM knotB [] m n c a hs).length = 32 := by
  induction m generalizing n c hs with
  | zero => exact ha
  | succ m ih =>
    rw [leadM]
    split
    · exact ih n c hs
    · split <;> exact knotB_length _ _

set_option maxRecDepth 100000 in
set_option maxHeartbeats 4000000 in
theorem rlead_any (m : Nat) (hm : m ≤ 20) : ∀ (w : World) (x : Bs) (n c : Nat) (v : Value) (hs : List Bs), x.length = 32 → Hs w v hs → n < c → c ≤ 2 ^ m → hs.length = sizeM m n c →
    Calls Try.prog 112 #[.agg (bvs x).toArray, .int .i64 (n : Int), .int .i64 (c : Int), v] w fun e w' => e = .returned (.agg (bvs (leadM knotB [] m n c (leafB x) hs)).toArray) ∧ Below w.heap.size w w' := by
  induction m with
  | zero =>
    intro w x n c v hs hx h h1 h2 h3
    have hc : c = 1 := by simp at h2; omega
    subst hc
    rw [show leadM knotB [] 0 n 1 (leafB x) hs = leafB x from rfl]
    obtain ⟨a0, c0, rfl⟩ := h.slice
    have hZl : Hid ((leafB x).length = 32) := Lib.hid (leafB_length x)
    have HX := Lib.hid hx
    obtain ⟨N, hN⟩ : ∃ N, N = hs.length := ⟨_, rfl⟩
    rw [← hN]
    clear h h1 h2 h3 hx hN
    go_enter Try.func112, Try.ntmps112
    go_wp2_with (with_reducible refine stopAt 13 ?_)
    refine Stop.go ?_
    obtain ⟨w1, h1, k1, b1, s1⟩ := alloc_cb w 24 (bvs x)
    obtain ⟨w2, h2, k2, b2, s2⟩ := alloc_cb w1 24 (bvs (List.replicate 32 0))
    change wpList _ _ _ _ _ ((w.alloc (.cells (bvs x).toArray 24)).alloc (.cells (bvs (List.replicate 32 0)).toArray 24))
    rw [← h1, ← h2]
    rw [s1] at k2
    have I2 := Lib.hid (k1.fresh b2)
    have K2 := Lib.hid k2
    have B2 := Lib.hid (b1.tr b2)
    clear h1 h2 k1 k2 b1 b2 s1 s2
    refine wpList_load_agg rfl 24 (.tmp 4) rfl (⟨w.heap.size, 0, none⟩) rfl (bvs x) _ ((At.block I2.out).load) Try.underlying24 rfl (by rw [bvs_length, HX.out]; exact infoHash) ?_
    go_wp2_with fail
    refine (rleaf_any w2 x HX.out).mono ?_
    rintro e w3 ⟨rfl, b3⟩
    have K3 := Lib.hid (K2.out.fresh b3)
    have B3 := Lib.hid (B2.out.tr b3)
    clear b3
    go_wp2_with (with_reducible refine stopStore 24 ?_)
    refine Stop.go ?_
    refine wpList_store_var rfl 24 (.tmp 8) (.tmp 14) rfl (w.heap.size + 1) _ rfl _ (bvs (leafB x)) rfl K3.out (by simp [hZl.out]) (bvs_one _) (by rw [bvs_length, hZl.out]; exact infoHash) ?_
    intro wf kf of
    have BF : Hid (Below w.heap.size w wf) := Below.only B3.out of (by omega)
    have KF := Lib.hid kf
    clear kf of
    go_wp2
    exact bodyPost_ret (results_cell1 rfl _ _ (w.heap.size + 1) _ _ _ _ rfl KF.out Try.underlying24 rfl (by simp [hZl.out, infoHash])) rfl ⟨rfl, BF.out⟩
  | succ m ih =>
    intro w x n c v hs hx h h1 h2 h3
    have ih := ih (by omega)
    rw [leadM]
    rw [sizeM] at h3
    by_cases hle : c ≤ 2 ^ m
    · rw [if_pos hle]
      rw [if_pos hle] at h3
      exact ih w x n c v hs hx h h1 hle h3
    · rw [if_neg hle]
      rw [if_neg hle] at h3
      obtain ⟨a0, c0, rfl⟩ := h.slice
      obtain ⟨p, hp⟩ : ∃ p, p = 2 ^ m := ⟨_, rfl⟩
      have CH := fun w0 => half_any w0 m c (by omega) h2 (by omega)
      have hpl : 2 ^ (m + 1) = p * 2 := by rw [hp, Nat.pow_succ]
      rw [← hp] at hle CH ih h3 ⊢
      have hp0 : 0 < p := by rw [hp]; exact Nat.pow_pos (by decide)
      have hpb : p ≤ 1048576 := by rw [hp]; exact Nat.pow_le_pow_right (by decide) (show m ≤ 20 by omega)
      have hcap := h.cap
      have i1 : ¬ ((c : Int) ≤ 1) := by omega
      obtain ⟨s, hs'⟩ : ∃ s, hs.length = 1 + s := by
        split at h3
        · exact ⟨_, h3⟩
        · exact ⟨_, h3⟩
      rw [hs'] at h3
      obtain ⟨y, hy⟩ : ∃ y, hs[s]? = some y := ⟨_, List.getElem?_eq_getElem (by omega)⟩
      have hy32 := h.1.get hy
      rw [show hs.length - 1 = s by omega]
      rw [show hs.getD s [] = y by rw [List.getD_eq_getElem?_getD, hy]; rfl]
      have htk : (hs.take s).length = s := by rw [List.length_take]; omega
      have hsb : s ≤ 20 := by
        split at h3
        · have := sizeM_le m n p; omega
        · have := sizeM_le m (n - p) (c - p); omega
      by_cases hk : n < p
      · rw [if_pos hk] at h3 ⊢
        have CI := fun w0 v0 h0 => ih w0 x n p v0 (hs.take s) hx h0 hk (Nat.le_refl _) (by omega)
        have i2 : (n : Int) < (p : Int) := by omega
        obtain ⟨X, hX⟩ : ∃ X, X = leadM knotB [] m n p (leafB x) (hs.take s) := ⟨_, rfl⟩
        rw [← hX] at CI ⊢
        have hXl : X.length = 32 := by rw [hX]; exact leadM_h32 _ _ _ _ _ (leafB_length x)
        have hZl : Hid ((knotB X y).length = 32) := Lib.hid (knotB_length _ _)
        obtain ⟨N, hN⟩ : ∃ N, N = hs.length := ⟨_, rfl⟩
        rw [← hN] at h hcap ⊢
        obtain ⟨ad, c9, he⟩ := h.isSome hN.symm (by omega)
        simp only [Value.slice.injEq, true_and] at he
        obtain ⟨rfl, rfl⟩ := he
        have i3 : (N : Int) - 1 = (s : Int) := by omega
        have i5 : (s : Int) < (N : Int) := by omega
        have i6 : (N : Int) ≤ 21 := by omega
        have i7 : (s : Int) ≤ (c0 : Int) := by omega
        replace CI := Lib.hid CI
        replace CH := Lib.hid CH
        have H := Lib.hid h
        have HX := Lib.hid (And.intro hx (And.intro hXl (And.intro hy hy32)))
        have HN := Lib.hid (And.intro hN (And.intro (show s ≤ N by omega) (show s ≤ c0 by omega)))
        clear h h1 h2 h3 hle hp hpl hp0 hpb hcap ih hs' hy hy32 htk hsb hX hXl hN hx hk
        go_enter Try.func112, Try.ntmps112
        go_wp2_with fail
        obtain ⟨w1, h1, k1, b1, s1⟩ := alloc_cb w 24 (bvs x)
        obtain ⟨w2, h2, k2, b2, s2⟩ := alloc_cb w1 24 (bvs (List.replicate 32 0))
        change Calls _ _ _ ((w.alloc (.cells (bvs x).toArray 24)).alloc (.cells (bvs (List.replicate 32 0)).toArray 24)) _
        rw [← h1, ← h2]
        rw [s1] at k2
        refine (CH.out _).mono ?_
        rintro e w3 ⟨rfl, rfl⟩
        have I3 := Lib.hid (k1.fresh b2)
        have K3 := Lib.hid k2
        have B3 := Lib.hid (b1.tr b2)
        clear h1 h2 k1 k2 b1 b2 s1 s2
        go_wp2_with fail
        have hS : Hid (CB w3.drew 24 w.heap.size (bvs x) ∧ Hs w3.drew (.slice (some ad) N c0) hs) := Lib.hid ⟨I3.out, H.out.fresh B3.out.drew⟩
        refine pl_start 13 rfl (fun w' => CB w' 24 w.heap.size (bvs x) ∧ Hs w' (.slice (some ad) N c0) hs) (by kernel_rfl) ?_
        obtain ⟨w4, hw4⟩ : ∃ w4, w4 = w3.drew := ⟨_, rfl⟩
        have K4 : Hid (CB w4 24 (w.heap.size + 1) (bvs (List.replicate 32 0))) := Lib.hid (by rw [hw4]; exact K3.out)
        have B4 : Hid (Below w.heap.size w w4) := Lib.hid (by rw [hw4]; exact B3.out.drew)
        rw [← hw4] at hS ⊢
        clear hw4 I3 K3 B3
        refine pl_take (i := 0) 23 rfl rfl rfl (by kernel_rfl) (by kernel_rfl) (by kernel_rfl) (by simp [Act.put]) hS.out ?_
        apply Exists.intro
        refine And.intro (fun w' hS' => ?_) ?_
        · refine wpList_load_agg rfl 24 (.tmp 4) rfl (⟨w.heap.size, 0, none⟩) rfl (bvs x) _ ((At.block hS'.1).load) Try.underlying24 rfl (by rw [bvs_length, HX.out.1]; exact infoHash) ?_
          go_wp2
          exact ⟨trivial, rfl⟩
        refine pl_take (i := 1) 24 rfl rfl rfl (by kernel_rfl) (by kernel_rfl) (by kernel_rfl) (by simp [Act.put]) hS.out ?_
        apply Exists.intro
        refine And.intro (fun w' hS' => ?_) ?_
        · go_wp2
          exact ⟨trivial, rfl⟩
        refine pl_take (i := 2) 25 rfl rfl rfl (by kernel_rfl) (by kernel_rfl) (by kernel_rfl) (by simp [Act.put]) hS.out ?_
        apply Exists.intro
        refine And.intro (fun w' hS' => ?_) ?_
        · go_wp2
          exact ⟨trivial, rfl⟩
        refine pl_take (i := 3) 26 rfl rfl rfl (by kernel_rfl) (by kernel_rfl) (by kernel_rfl) (by simp [Act.put]) hS.out ?_
        apply Exists.intro
        refine And.intro (fun w' hS' => ?_) ?_
        · go_wp2
          exact ⟨trivial, rfl⟩
        refine pl_take (i := 4) 27 rfl rfl rfl (by kernel_rfl) (by kernel_rfl) (by kernel_rfl) (by simp [Act.put]) hS.out ?_
        apply Exists.intro
        refine And.intro (fun w' hS' => ?_) ?_
        · go_wp2
          exact ⟨trivial, rfl⟩
        refine pl_take (i := 5) 28 rfl rfl rfl (by kernel_rfl) (by kernel_rfl) (by kernel_rfl) (by simp [Act.put]) hS.out ?_
        apply Exists.intro
        refine And.intro (fun w' hS' => ?_) ?_
        · clear hS'
          refine wpList_slice rfl 22 (.tmp 26) _ _ _ rfl (.slice (some ad) s c0) (run_slice_to Try.underlying22 infoHash (some ad) N c0 s (by have := HN.out.2.2; omega)) ?_
          go_wp2
          exact ⟨trivial, rfl⟩
        refine pl_take (i := 7) 30 rfl rfl rfl (by kernel_rfl) (by kernel_rfl) (by kernel_rfl) (by simp [Act.put]) hS.out ?_
        apply Exists.intro
        refine And.intro (fun w' hS' => ?_) ?_
        · go_wp2
          exact ⟨trivial, rfl⟩
        refine pl_take (i := 8) 31 rfl rfl rfl (by kernel_rfl) (by kernel_rfl) (by kernel_rfl) (by simp [Act.put]) hS.out ?_
        apply Exists.intro
        refine And.intro (fun w' hS' => ?_) ?_
        · go_wp2
          exact ⟨trivial, rfl⟩
        refine pl_take (i := 9) 32 rfl rfl rfl (by kernel_rfl) (by kernel_rfl) (by kernel_rfl) (by simp [Act.put]) hS.out ?_
        apply Exists.intro
        refine And.intro (fun w' hS' => ?_) ?_
        · clear hS'
          go_wp2
          exact ⟨trivial, rfl⟩
        refine pl_take (i := 10) 33 rfl rfl rfl (by kernel_rfl) (by kernel_rfl) (by kernel_rfl) (by simp [Act.put]) hS.out ?_
        apply Exists.intro
        refine And.intro (fun w' hS' => ?_) ?_
        · refine wpList_load_agg rfl 24 (.tmp 32) rfl (ad.add (s * 32)) rfl (bvs y) _ (hS'.2.elem' HX.out.2.2.1) Try.underlying24 rfl (by rw [bvs_length, HX.out.2.2.2]; exact infoHash) ?_
          go_wp2
          exact ⟨trivial, rfl⟩
        refine pl_heavy (i := 6) rfl (by kernel_rfl) ?_
        go_wp2_with fail
        refine (CI.out w4 _ (hS.out.2.take HN.out.1 s HN.out.2.1)).mono ?_
        rintro e w5 ⟨rfl, b5⟩
        have S5 := Lib.hid (And.intro (hS.out.1.fresh b5) (hS.out.2.fresh b5))
        have K5 := Lib.hid (K4.out.fresh b5)
        have B5 := Lib.hid (B4.out.tr b5)
        clear b5 hS K4 B4
        go_wp2
        refine And.intro S5.out ?_
        refine pl_heavy (i := 11) rfl (by kernel_rfl) ?_
        go_wp2_with fail
        refine (rknot_any w5 X y HX.out.2.1 HX.out.2.2.2).mono ?_
        rintro e w6 ⟨rfl, b6⟩
        have S6 := Lib.hid (And.intro (S5.out.1.fresh b6) (S5.out.2.fresh b6))
        have K6 := Lib.hid (K5.out.fresh b6)
        have B6 := Lib.hid (B5.out.tr b6)
        clear b6 S5 K5 B5
        go_wp2
        refine And.intro S6.out ?_
        refine pl_heavy (i := 12) rfl (by kernel_rfl) ?_
        refine wpList_store_var rfl 24 (.tmp 8) (.tmp 34) rfl (w.heap.size + 1) _ rfl _ (bvs (knotB X y)) rfl K6.out (by simp [hZl.out]) (bvs_one _) (by rw [bvs_length, hZl.out]; exact infoHash) ?_
        intro wf kf of
        have BF : Hid (Below w.heap.size w wf) := Below.only B6.out of (by omega)
        have KF := Lib.hid kf
        clear kf
        have hb : ∀ k, (Value.slice (some ad) N c0).ownBlock = some k → k < w.heap.size := fun k hk => by
          have := H.out.own_lt (by rw [← HN.out.1]; omega) hk
          exact this
        have SF : Hid (CB wf 24 w.heap.size (bvs x) ∧ Hs wf (.slice (some ad) N c0) hs) := Lib.hid ⟨S6.out.1.only of (by omega), S6.out.2.only of (fun e => by have := hb _ e; omega)⟩
        clear of hb
        go_wp2
        refine And.intro SF.out ?_
        refine pl_done (by kernel_rfl) ?_
        go_wp2
        exact bodyPost_ret (results_cell1 rfl _ _ (w.heap.size + 1) _ _ _ _ rfl KF.out Try.underlying24 rfl (by simp [hZl.out, infoHash])) rfl ⟨rfl, BF.out⟩
      · rw [if_neg hk] at h3 ⊢
        obtain ⟨n', hn'⟩ : ∃ n', n' = n - p := ⟨_, rfl⟩
        obtain ⟨c', hc'⟩ : ∃ c', c' = c - p := ⟨_, rfl⟩
        rw [← hn', ← hc'] at h3 ⊢
        have CI := fun w0 v0 h0 => ih w0 x n' c' v0 (hs.take s) hx h0 (by omega) (by omega) (by omega)
        have i2 : ¬ ((n : Int) < (p : Int)) := by omega
        have i8 : (n : Int) - (p : Int) = (n' : Int) := by omega
        have i9 : (c : Int) - (p : Int) = (c' : Int) := by omega
        have i10 : (n : Int) ≤ 2097152 := by omega
        have i11 : (c : Int) ≤ 2097152 := by omega
        obtain ⟨X, hX⟩ : ∃ X, X = leadM knotB [] m n' c' (leafB x) (hs.take s) := ⟨_, rfl⟩
        rw [← hX] at CI ⊢
        have hXl : X.length = 32 := by rw [hX]; exact leadM_h32 _ _ _ _ _ (leafB_length x)
        have hZl : Hid ((knotB y X).length = 32) := Lib.hid (knotB_length _ _)
        obtain ⟨N, hN⟩ : ∃ N, N = hs.length := ⟨_, rfl⟩
        rw [← hN] at h hcap ⊢
        obtain ⟨ad, c9, he⟩ := h.isSome hN.symm (by omega)
        simp only [Value.slice.injEq, true_and] at he
        obtain ⟨rfl, rfl⟩ := he
        have i3 : (N : Int) - 1 = (s : Int) := by omega
        have i5 : (s : Int) < (N : Int) := by omega
        have i6 : (N : Int) ≤ 21 := by omega
        have i7 : (s : Int) ≤ (c0 : Int) := by omega
        replace CI := Lib.hid CI
        replace CH := Lib.hid CH
        have H := Lib.hid h
        have HX := Lib.hid (And.intro hx (And.intro hXl (And.intro hy hy32)))
        have HN := Lib.hid (And.intro hN (And.intro (show s ≤ N by omega) (show s ≤ c0 by omega)))
        clear h h1 h2 h3 hle hp hpl hp0 hpb hcap ih hs' hy hy32 htk hsb hX hXl hN hx hk hn' hc'
        go_enter Try.func112, Try.ntmps112
        go_wp2_with fail
        obtain ⟨w1, h1, k1, b1, s1⟩ := alloc_cb w 24 (bvs x)
        obtain ⟨w2, h2, k2, b2, s2⟩ := alloc_cb w1 24 (bvs (List.replicate 32 0))
        change Calls _ _ _ ((w.alloc (.cells (bvs x).toArray 24)).alloc (.cells (bvs (List.replicate 32 0)).toArray 24)) _
        rw [← h1, ← h2]
        rw [s1] at k2
        refine (CH.out _).mono ?_
        rintro e w3 ⟨rfl, rfl⟩
        have I3 := Lib.hid (k1.fresh b2)
        have K3 := Lib.hid k2
        have B3 := Lib.hid (b1.tr b2)
        clear h1 h2 k1 k2 b1 b2 s1 s2
        go_wp2_with fail
        have hS : Hid (CB w3.drew 24 w.heap.size (bvs x) ∧ Hs w3.drew (.slice (some ad) N c0) hs) := Lib.hid ⟨I3.out, H.out.fresh B3.out.drew⟩
        refine pl_start 17 rfl (fun w' => CB w' 24 w.heap.size (bvs x) ∧ Hs w' (.slice (some ad) N c0) hs) (by kernel_rfl) ?_
        obtain ⟨w4, hw4⟩ : ∃ w4, w4 = w3.drew := ⟨_, rfl⟩
        have K4 : Hid (CB w4 24 (w.heap.size + 1) (bvs (List.replicate 32 0))) := Lib.hid (by rw [hw4]; exact K3.out)
        have B4 : Hid (Below w.heap.size w w4) := Lib.hid (by rw [hw4]; exact B3.out.drew)
        rw [← hw4] at hS ⊢
        clear hw4 I3 K3 B3
        refine pl_take (i := 0) 35 rfl rfl rfl (by kernel_rfl) (by kernel_rfl) (by kernel_rfl) (by simp [Act.put]) hS.out ?_
        apply Exists.intro
        refine And.intro (fun w' hS' => ?_) ?_
        · go_wp2
          exact ⟨trivial, rfl⟩
        refine pl_take (i := 1) 36 rfl rfl rfl (by kernel_rfl) (by kernel_rfl) (by kernel_rfl) (by simp [Act.put]) hS.out ?_
        apply Exists.intro
        refine And.intro (fun w' hS' => ?_) ?_
        · go_wp2
          exact ⟨trivial, rfl⟩
        refine pl_take (i := 2) 37 rfl rfl rfl (by kernel_rfl) (by kernel_rfl) (by kernel_rfl) (by simp [Act.put]) hS.out ?_
        apply Exists.intro
        refine And.intro (fun w' hS' => ?_) ?_
        · clear hS'
          go_wp2
          exact ⟨trivial, rfl⟩
        refine pl_take (i := 3) 38 rfl rfl rfl (by kernel_rfl) (by kernel_rfl) (by kernel_rfl) (by simp [Act.put]) hS.out ?_
        apply Exists.intro
        refine And.intro (fun w' hS' => ?_) ?_
        · refine wpList_load_agg rfl 24 (.tmp 37) rfl (ad.add (s * 32)) rfl (bvs y) _ (hS'.2.elem' HX.out.2.2.1) Try.underlying24 rfl (by rw [bvs_length, HX.out.2.2.2]; exact infoHash) ?_
          go_wp2
          exact ⟨trivial, rfl⟩
        refine pl_take (i := 4) 39 rfl rfl rfl (by kernel_rfl) (by kernel_rfl) (by kernel_rfl) (by simp [Act.put]) hS.out ?_
        apply Exists.intro
        refine And.intro (fun w' hS' => ?_) ?_
        · refine wpList_load_agg rfl 24 (.tmp 4) rfl (⟨w.heap.size, 0, none⟩) rfl (bvs x) _ ((At.block hS'.1).load) Try.underlying24 rfl (by rw [bvs_length, HX.out.1]; exact infoHash) ?_
          go_wp2
          exact ⟨trivial, rfl⟩
        refine pl_take (i := 5) 40 rfl rfl rfl (by kernel_rfl) (by kernel_rfl) (by kernel_rfl) (by simp [Act.put]) hS.out ?_
        apply Exists.intro
        refine And.intro (fun w' hS' => ?_) ?_
        · go_wp2
          exact ⟨trivial, rfl⟩
        refine pl_take (i := 6) 41 rfl rfl rfl (by kernel_rfl) (by kernel_rfl) (by kernel_rfl) (by simp [Act.put]) hS.out ?_
        apply Exists.intro
        refine And.intro (fun w' hS' => ?_) ?_
        · go_wp2
          exact ⟨trivial, rfl⟩
        refine pl_take (i := 7) 42 rfl rfl rfl (by kernel_rfl) (by kernel_rfl) (by kernel_rfl) (by simp [Act.put]) hS.out ?_
        apply Exists.intro
        refine And.intro (fun w' hS' => ?_) ?_
        · go_wp2
          exact ⟨trivial, rfl⟩
        refine pl_take (i := 8) 43 rfl rfl rfl (by kernel_rfl) (by kernel_rfl) (by kernel_rfl) (by simp [Act.put]) hS.out ?_
        apply Exists.intro
        refine And.intro (fun w' hS' => ?_) ?_
        · go_wp2
          exact ⟨trivial, rfl⟩
        refine pl_take (i := 9) 44 rfl rfl rfl (by kernel_rfl) (by kernel_rfl) (by kernel_rfl) (by simp [Act.put]) hS.out ?_
        apply Exists.intro
        refine And.intro (fun w' hS' => ?_) ?_
        · go_wp2
          exact ⟨trivial, rfl⟩
        refine pl_take (i := 10) 45 rfl rfl rfl (by kernel_rfl) (by kernel_rfl) (by kernel_rfl) (by simp [Act.put]) hS.out ?_
        apply Exists.intro
        refine And.intro (fun w' hS' => ?_) ?_
        · go_wp2
          exact ⟨trivial, rfl⟩
        refine pl_take (i := 11) 46 rfl rfl rfl (by kernel_rfl) (by kernel_rfl) (by kernel_rfl) (by simp [Act.put]) hS.out ?_
        apply Exists.intro
        refine And.intro (fun w' hS' => ?_) ?_
        · go_wp2
          exact ⟨trivial, rfl⟩
        refine pl_take (i := 12) 47 rfl rfl rfl (by kernel_rfl) (by kernel_rfl) (by kernel_rfl) (by simp [Act.put]) hS.out ?_
        apply Exists.intro
        refine And.intro (fun w' hS' => ?_) ?_
        · go_wp2
          exact ⟨trivial, rfl⟩
        refine pl_take (i := 13) 48 rfl rfl rfl (by kernel_rfl) (by kernel_rfl) (by kernel_rfl) (by simp [Act.put]) hS.out ?_
        apply Exists.intro
        refine And.intro (fun w' hS' => ?_) ?_
        · clear hS'
          refine wpList_slice rfl 22 (.tmp 46) _ _ _ rfl (.slice (some ad) s c0) (run_slice_to Try.underlying22 infoHash (some ad) N c0 s (by have := HN.out.2.2; omega)) ?_
          go_wp2
          exact ⟨trivial, rfl⟩
        refine pl_heavy (i := 14) rfl (by kernel_rfl) ?_
        go_wp2_with fail
        refine (CI.out w4 _ (hS.out.2.take HN.out.1 s HN.out.2.1)).mono ?_
        rintro e w5 ⟨rfl, b5⟩
        have S5 := Lib.hid (And.intro (hS.out.1.fresh b5) (hS.out.2.fresh b5))
        have K5 := Lib.hid (K4.out.fresh b5)
        have B5 := Lib.hid (B4.out.tr b5)
        clear b5 hS K4 B4
        go_wp2
        refine And.intro S5.out ?_
        refine pl_heavy (i := 15) rfl (by kernel_rfl) ?_
        go_wp2_with fail
        refine (rknot_any w5 y X HX.out.2.2.2 HX.out.2.1).mono ?_
        rintro e w6 ⟨rfl, b6⟩
        have S6 := Lib.hid (And.intro (S5.out.1.fresh b6) (S5.out.2.fresh b6))
        have K6 := Lib.hid (K5.out.fresh b6)
        have B6 := Lib.hid (B5.out.tr b6)
        clear b6 S5 K5 B5
        go_wp2
        refine And.intro S6.out ?_
        refine pl_heavy (i := 16) rfl (by kernel_rfl) ?_
        refine wpList_store_var rfl 24 (.tmp 8) (.tmp 50) rfl (w.heap.size + 1) _ rfl _ (bvs (knotB y X)) rfl K6.out (by simp [hZl.out]) (bvs_one _) (by rw [bvs_length, hZl.out]; exact infoHash) ?_
        intro wf kf of
        have BF : Hid (Below w.heap.size w wf) := Below.only B6.out of (by omega)
        have KF := Lib.hid kf
        clear kf
        have hb : ∀ k, (Value.slice (some ad) N c0).ownBlock = some k → k < w.heap.size := fun k hk => by
          have := H.out.own_lt (by rw [← HN.out.1]; omega) hk
          exact this
        have SF : Hid (CB wf 24 w.heap.size (bvs x) ∧ Hs wf (.slice (some ad) N c0) hs) := Lib.hid ⟨S6.out.1.only of (by omega), S6.out.2.only of (fun e => by have := hb _ e; omega)⟩
        clear of hb
        go_wp2
        refine And.intro SF.out ?_
        refine pl_done (by kernel_rfl) ?_
        go_wp2
        exact bodyPost_ret (results_cell1 rfl _ _ (w.heap.size + 1) _ _ _ _ rfl KF.out Try.underlying24 rfl (by simp [hZl.out, infoHash])) rfl ⟨rfl, BF.out⟩

end Go.Proofs.Ytbabjepblakboaa
