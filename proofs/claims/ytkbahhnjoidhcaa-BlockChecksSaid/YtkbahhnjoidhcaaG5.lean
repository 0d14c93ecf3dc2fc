/- Texts Yh Yi Yjr, one behind the other. -/
import Derived.Test.YtkbahhnjoidhcaaMr
import Derived.Test.YtkbahhnjoidhcaaG4
/- Merkle: the reference's leaves, knots, tops, roots: the walks. -/
namespace Go.Proofs.Ytkbahhnjoidhcaa
set_option linter.unusedVariables false
set_option linter.unusedSimpArgs false
open Go.RowKit Go.Lib

set_option maxRecDepth 100000 in
theorem rleaf_any (w : World) (x : Bs) (hx : x.length = 32) :
    Calls Try.prog 110 #[.agg (bvs x).toArray] w fun e w' => e = .returned (.agg (bvs (leafB x)).toArray) ∧ Below w.heap.size w w' := by
  obtain ⟨Z, hZ⟩ : ∃ Z, Z = leafB x := ⟨_, rfl⟩
  have hZl : Hid (Z.length = 32) := Lib.hid (by rw [hZ]; exact leafB_length _)
  have CT := fun w0 v0 h0 => rtag_any w0 v0 [108, 101, 97, 102] x h0 (by omega) (by simp)
  rw [show shaB (textB [108, 101, 97, 102] x) = Z by rw [hZ]; rfl] at CT
  rw [← hZ]
  replace CT := Lib.hid CT
  have HX := Lib.hid hx
  clear hx hZ
  go_enter Try.func110, Try.ntmps110
  go_wp2_with fail
  obtain ⟨w1, h1, k1, b1, s1⟩ := alloc_cb w 24 (bvs x)
  obtain ⟨w2, h2, k2, b2, s2⟩ := alloc_cb w1 24 (bvs (List.replicate 32 0))
  change Calls _ _ _ ((w.alloc (.cells (bvs x).toArray 24)).alloc (.cells (bvs (List.replicate 32 0)).toArray 24)) _
  rw [← h1, ← h2]
  rw [s1] at s2 k2
  refine (CT.out _ _ ((k1.rd32 HX.out).fresh b2)).mono ?_
  rintro e w4 ⟨rfl, b4⟩
  have B4 : Hid (Below w.heap.size w w4) := (b1.tr b2).tr b4
  have K4 := Lib.hid (k2.fresh b4)
  clear b4 k1 k2 b1 b2 s1 s2 h1 h2
  go_wp2_with (with_reducible refine stopStore 24 ?_)
  refine Stop.go ?_
  refine wpList_store_var rfl 24 (.tmp 2) (.tmp 4) rfl (w.heap.size + 1) _ rfl _ (bvs Z) rfl K4.out (by simp [hZl.out]) (bvs_one _) (by rw [bvs_length, hZl.out]; exact infoHash) ?_
  intro wf kf of
  have BF : Hid (Below w.heap.size w wf) := Below.only B4.out of (by omega)
  have KF := Lib.hid kf
  clear kf of
  go_wp2
  exact bodyPost_ret (results_cell1 rfl _ _ (w.heap.size + 1) _ _ _ _ rfl KF.out Try.underlying24 rfl (by simp [hZl.out, infoHash])) rfl ⟨rfl, BF.out⟩

set_option maxRecDepth 100000 in
set_option maxHeartbeats 1000000 in
theorem rknot_any (w : World) (x y : Bs) (hx : x.length = 32) (hy : y.length = 32) :
    Calls Try.prog 112 #[.agg (bvs x).toArray, .agg (bvs y).toArray] w fun e w' => e = .returned (.agg (bvs (knotB x y)).toArray) ∧ Below w.heap.size w w' := by
  obtain ⟨i0, hi, hi0, hi1, hi2⟩ := info_parts infoU8
  obtain ⟨Z, hZ⟩ : ∃ Z, Z = knotB x y := ⟨_, rfl⟩
  have hZl : Hid (Z.length = 32) := Lib.hid (by rw [hZ]; exact knotB_length _ _)
  have e64 : (x ++ y).length = 64 := by simp; omega
  have CT := fun w0 v0 (h0 : Rd w0 1 v0 64 (bvs (x ++ y))) => rtag_any w0 v0 [107, 110, 111, 116] (x ++ y) (by rw [e64]; exact h0) (by simp; omega) (by simp)
  rw [show shaB (textB [107, 110, 111, 116] (x ++ y)) = Z by rw [hZ]; rfl] at CT
  rw [← hZ]
  replace CT := Lib.hid CT
  have HX := Lib.hid hx
  have HY := Lib.hid hy
  have E64 := Lib.hid e64
  clear hx hy hZ e64
  go_enter Try.func112, Try.ntmps112
  go_wp2_with fail
  obtain ⟨w1, h1, k1, b1, s1⟩ := alloc_cb w 24 (bvs x)
  obtain ⟨w2, h2, k2, b2, s2⟩ := alloc_cb w1 24 (bvs y)
  obtain ⟨w3, h3, k3, b3, s3⟩ := alloc_cb w2 24 (bvs (List.replicate 32 0))
  change Code.wp _ _ _ _ (((w.alloc (.cells (bvs x).toArray 24)).alloc (.cells (bvs y).toArray 24)).alloc (.cells (bvs (List.replicate 32 0)).toArray 24))
  rw [← h1, ← h2, ← h3]
  rw [s1] at s2 k2
  rw [s2] at s3 k3
  have X3 := Lib.hid (((k1.rd32 HX.out).fresh b2).fresh b3.drew)
  have Y3 := Lib.hid ((k2.rd32 HY.out).fresh b3.drew)
  have K3 : Hid (CB w3.drew 24 (w.heap.size + 1 + 1) (bvs (List.replicate 32 0))) := Lib.hid k3
  have B3 : Hid (Below w.heap.size w w3.drew) := Lib.hid ((b1.tr b2).tr b3).drew
  have S3 : Hid (w3.drew.heap.size = w.heap.size + 1 + 1 + 1) := Lib.hid s3
  clear h1 h2 h3 k1 k2 k3 b1 b2 b3 s1 s2 s3
  refine pl_start 6 rfl (fun _ => True) (by kernel_rfl) ?_
  obtain ⟨w4, hw4⟩ : ∃ w4, w4 = w3.drew := ⟨_, rfl⟩
  rw [← hw4] at X3 Y3 K3 B3 S3 ⊢
  clear hw4
  refine pl_take (i := 0) 5 rfl rfl rfl (by kernel_rfl) (by kernel_rfl) (by kernel_rfl) (by simp [Act.put]) trivial ?_
  apply Exists.intro
  refine And.intro (fun w' hS' => ?_) ?_
  · go_wp2
    first
      | exact ⟨trivial, rfl⟩
      | exact rfl
  refine pl_take (i := 2) 7 rfl rfl rfl (by kernel_rfl) (by kernel_rfl) (by kernel_rfl) (by simp [Act.put]) trivial ?_
  apply Exists.intro
  refine And.intro (fun w' hS' => ?_) ?_
  · go_wp2
    first
      | exact ⟨trivial, rfl⟩
      | exact rfl
  refine pl_heavy (i := 1) rfl (by kernel_rfl) ?_
  refine wpList_append_rd _ rfl _ (.tmp 5) 42 rfl w4.heap.size 5 i0 (.int .u8 0) 1 1 Try.underlying42 hi hi0 hi1 hi2 rfl (by decide) (.slice none 0 0) 0 [] rfl (World.ownsRow_nil _ _ _ _) _ x.length (bvs x) rfl X3.out (bvs_one _) (by unfold maxLen; have := HX.out; omega) (by have := HX.out; omega) (Nat.le_refl _) ?_
  intro v5 w5 hown5 hgr5 _ _
  have b5 : Below w4.heap.size w4 w5 := (Below.refl _ w4).grown hgr5 (Nat.le_refl _) (by simp [Value.ownBlock])
  have Y5 := Lib.hid (Y3.out.fresh b5)
  have K5 := Lib.hid (K3.out.fresh b5)
  have B5 := Lib.hid (B3.out.tr b5)
  have O5 : Hid (w5.ownsRow w4.heap.size 5 1 v5 32 (bvs x)) := Lib.hid (by have := hown5; rw [List.nil_append, Nat.zero_add, HX.out] at this; exact this)
  have Z5 : Hid (w4.heap.size ≤ w5.heap.size) := b5.size
  clear b5 hown5 hgr5 X3 Y3 K3 B3
  obtain ⟨a5, c5, rfl⟩ := own_slice O5.out
  go_wp2
  first
    | refine And.intro trivial ?_
    | skip
  refine pl_heavy (i := 3) rfl (by kernel_rfl) ?_
  refine wpList_append_rd _ rfl (.tmp 6) (.tmp 7) 42 rfl w4.heap.size 5 i0 (.int .u8 0) 1 1 Try.underlying42 hi hi0 hi1 hi2 rfl (by decide) _ 32 (bvs x) rfl O5.out _ y.length (bvs y) (by rfl) Y5.out (bvs_one _) (by unfold maxLen; have := HY.out; omega) (by have := HY.out; omega) Z5.out ?_
  intro v6 w6 hown6 hgr6 _ _
  have b6 : Below w4.heap.size w5 w6 := (Below.refl w4.heap.size w5).grown hgr6 Z5.out (fun j hj => (O5.out.lt j hj).1)
  have K6 := Lib.hid (K5.out.below b6 (by have := S3.out; omega))
  have B6 := Lib.hid (B5.out.trans (b6.mono (by have := S3.out; omega)))
  have R6 : Hid (Rd w6 1 v6 64 (bvs (x ++ y))) := Lib.hid (by
    have := Rd.of_own hown6
    rw [← bvs_append, HY.out] at this
    exact this)
  clear hown6 hgr6 b6 O5 Y5 K5 B5
  obtain ⟨a6, c6, rfl⟩ := R6.out.slice
  go_wp2
  first
    | refine And.intro trivial ?_
    | skip
  refine pl_heavy (i := 4) rfl (by kernel_rfl) ?_
  go_wp2_with fail
  refine (CT.out _ _ R6.out).mono ?_
  rintro e w7 ⟨rfl, b7⟩
  have K7 := Lib.hid (K6.out.fresh b7)
  have B7 := Lib.hid (B6.out.tr b7)
  clear b7 K6 B6 R6
  go_wp2
  first
    | refine And.intro trivial ?_
    | skip
  refine pl_heavy (i := 5) rfl (by kernel_rfl) ?_
  refine wpList_store_var rfl 24 (.tmp 4) (.tmp 9) rfl (w.heap.size + 1 + 1) _ rfl _ (bvs Z) rfl K7.out (by simp [hZl.out]) (bvs_one _) (by rw [bvs_length, hZl.out]; exact infoHash) ?_
  intro wf kf of
  have BF : Hid (Below w.heap.size w wf) := Below.only B7.out of (by omega)
  have KF := Lib.hid kf
  clear kf
  go_wp2
  first
    | refine And.intro trivial ?_
    | skip
  refine pl_done (by kernel_rfl) ?_
  go_wp2
  exact bodyPost_ret (results_cell1 rfl _ _ (w.heap.size + 1 + 1) _ _ _ _ rfl KF.out Try.underlying24 rfl (by simp [hZl.out, infoHash])) rfl ⟨rfl, BF.out⟩

set_option maxRecDepth 100000 in
set_option maxHeartbeats 1000000 in
theorem rtop_any (w : World) (n : Nat) (v : Value) (m : Bs) (hn : n ≤ 1099511627776) (hv : Rd w 1 v m.length (bvs m)) (hm : m.length ≤ 1000000) :
    Calls Try.prog 97 #[.int .i64 (n : Int), v] w fun e w' => e = .returned (.agg (bvs (topB n m)).toArray) ∧ Below w.heap.size w w' := by
  obtain ⟨i0, hi, hi0, hi1, hi2⟩ := info_parts infoU8
  obtain ⟨a0, c0, rfl⟩ := hv.slice
  obtain ⟨Z, hZ⟩ : ∃ Z, Z = topB n m := ⟨_, rfl⟩
  have hZl : Hid (Z.length = 32) := Lib.hid (by rw [hZ]; exact topB_length _ _)
  obtain ⟨k, hk⟩ : ∃ k, k = m.length := ⟨_, rfl⟩
  have e8 : (le n 8 ++ m).length = 8 + k := by simp; omega
  have CT := fun w0 v0 (h0 : Rd w0 1 v0 (8 + k) (bvs (le n 8 ++ m))) => rtag_any w0 v0 [114, 111, 111, 116] (le n 8 ++ m) (by rw [e8]; exact h0) (by omega) (by simp)
  rw [show shaB (textB [114, 111, 111, 116] (le n 8 ++ m)) = Z by rw [hZ]; rfl] at CT
  rw [← hZ]
  rw [← hk] at hv hm ⊢
  replace CT := Lib.hid CT
  have HV := Lib.hid hv
  have HN := Lib.hid (And.intro hn hm)
  have h0 : (0 : Int) ≤ (n : Int) := by omega
  clear hn hv hm hZ hk e8
  go_enter Try.func97, Try.ntmps97
  go_wp2_with fail
  obtain ⟨w1, h1, k1, b1, s1⟩ := alloc_cb w 24 (bvs (List.replicate 32 0))
  change Code.wp _ _ _ _ (w.alloc (.cells (bvs (List.replicate 32 0)).toArray 24))
  rw [← h1]
  have K1 := Lib.hid k1
  have B1 := Lib.hid b1
  have S1 := Lib.hid s1
  clear h1 k1 b1 s1
  go_wp2
  go_loopw [5, 6] (fun v5 v6 wr => ∃ j : Nat, j ≤ 8 ∧ v6 = .int .i64 (j : Int) ∧ wr.ownsRow (w.heap.size + 1) 5 1 v5 j (bvs (le n j)) ∧ CB wr 24 w.heap.size (bvs (List.replicate 32 0)) ∧ w.heap.size + 1 ≤ wr.heap.size ∧ Below w.heap.size w wr)
    (fun _ v _ => 8 - (intOf v).toNat)
  case atStart => exact ⟨0, by omega, rfl, World.ownsRow_nil _ _ _ _, K1.out, by rw [S1.out]; exact Nat.le_refl _, B1.out⟩
  case round =>
    obtain ⟨j, hj, rfl, ho, hk, hz, hb⟩ := hrel
    obtain ⟨a5, c5, rfl⟩ := own_slice ho
    have HO := Lib.hid ho
    have HK := Lib.hid hk
    have HZ := Lib.hid hz
    have HB := Lib.hid hb
    clear ho hk hz hb
    by_cases h8 : j < 8
    · have j8 : (j : Int) < 8 := by omega
      have H8 := Lib.hid h8
      clear h8
      go_wp2_with (at_builtin; apply Stop.mk)
      refine Stop.go ?_
      have hbv : Value.int .u8 ((n : Int) / 2 ^ (8 * j) % 256) = bv (UInt8.ofNat (n / 2 ^ (8 * j))) := by rw [bv_ofNat]; simp
      rw [hbv]
      clear hbv
      obtain ⟨wa, hwa, kba, bba, sa⟩ := alloc_cb wr 5 (bvs [UInt8.ofNat (n / 2 ^ (8 * j))])
      change wpList _ _ _ _ _ (wr.alloc (.cells (bvs [UInt8.ofNat (n / 2 ^ (8 * j))]).toArray 5))
      rw [← hwa]
      have ra : Rd wa 1 (.slice (some ⟨wr.heap.size, 0, none⟩) 1 1) 1 (bvs [UInt8.ofNat (n / 2 ^ (8 * j))]) := by have := kba.rdAll (by simp [maxLen]); simpa using this
      refine wpList_append_rd _ rfl (.tmp 11) (.tmp 18) 42 rfl (w.heap.size + 1) 5 i0 (.int .u8 0) 1 1 Try.underlying42 hi hi0 hi1 hi2 rfl (by decide) _ j (bvs (le n j)) rfl (own_fresh HO.out bba) _ 1 (bvs [UInt8.ofNat (n / 2 ^ (8 * j))]) rfl ra (bvs_one _) (by unfold maxLen; have := H8.out; omega) (by have := H8.out; omega) (by have := HZ.out; have := bba.size; omega) ?_
      intro v6 w6 hown6 hgr6 _ _
      have b6 : Below (w.heap.size + 1) wa w6 := (Below.refl _ wa).grown hgr6 (by have := HZ.out; have := bba.size; omega) (fun j hj => (HO.out.lt j hj).1)
      have b6' : Below (w.heap.size + 1) wr w6 := (bba.mono HZ.out).trans b6
      have K6 := Lib.hid (HK.out.below b6' (by omega))
      have Z6 : Hid (w.heap.size + 1 ≤ w6.heap.size) := Lib.hid (Nat.le_trans HZ.out b6'.size)
      have B6 : Hid (Below w.heap.size w w6) := Lib.hid (HB.out.trans (b6'.mono (by omega)))
      have O6 : Hid (w6.ownsRow (w.heap.size + 1) 5 1 v6 (j + 1) (bvs (le n (j + 1)))) := Lib.hid (by rw [le, bvs_append]; exact hown6)
      clear hown6 hgr6 b6 b6' hwa kba bba sa ra
      go_wp2
      go_roundw
      case rel => exact ⟨j + 1, by have := H8.out; omega, by go_num, O6.out, K6.out, Z6.out, B6.out⟩
      case measure => simp only [intOf]; have := H8.out; omega
    · have j8 : ¬ ((j : Int) < 8) := by omega
      have hj8 : j = 8 := by omega
      subst hj8
      clear h8
      go_wp2_with (at_builtin; apply Stop.mk)
      refine Stop.go ?_
      refine wpList_append_rd _ rfl (.tmp 20) (.tmp 21) 42 rfl (w.heap.size + 1) 5 i0 (.int .u8 0) 1 1 Try.underlying42 hi hi0 hi1 hi2 rfl (by decide) _ 8 (bvs (le n 8)) rfl HO.out _ k (bvs m) rfl (HV.out.fresh HB.out) (bvs_one _) (by unfold maxLen; have := HN.out.2; omega) (by have := HN.out.2; omega) HZ.out ?_
      intro v6 w6 hown6 hgr6 _ _
      have b6 : Below (w.heap.size + 1) wr w6 := (Below.refl _ wr).grown hgr6 HZ.out (fun j hj => (HO.out.lt j hj).1)
      have K6 := Lib.hid (HK.out.below b6 (by omega))
      have B6 : Hid (Below w.heap.size w w6) := Lib.hid (HB.out.trans (b6.mono (by omega)))
      have R6 : Hid (Rd w6 1 v6 (8 + k) (bvs (le n 8 ++ m))) := Lib.hid (by rw [bvs_append]; exact Rd.of_own hown6)
      clear hown6 hgr6 b6
      obtain ⟨a6, c6, rfl⟩ := R6.out.slice
      go_wp2_with fail
      refine (CT.out _ _ R6.out).mono ?_
      rintro e w7 ⟨rfl, b7⟩
      have K7 := Lib.hid (K6.out.fresh b7)
      have B7 := Lib.hid (B6.out.tr b7)
      clear b7 K6 B6 R6
      go_wp2_with (with_reducible refine stopStore 24 ?_)
      refine Stop.go ?_
      refine wpList_store_var rfl 24 (.tmp 4) (.tmp 23) rfl (w.heap.size) _ rfl _ (bvs Z) rfl K7.out (by simp [hZl.out]) (bvs_one _) (by rw [bvs_length, hZl.out]; exact infoHash) ?_
      intro wf kf of
      have BF : Hid (Below w.heap.size w wf) := Below.only B7.out of (by omega)
      have KF := Lib.hid kf
      clear kf of
      go_wp2
      exact bodyPost_ret (results_cell1 rfl _ _ (w.heap.size) _ _ _ _ rfl KF.out Try.underlying24 rfl (by simp [hZl.out, infoHash])) rfl ⟨rfl, BF.out⟩

theorem half_step (m n k : Nat) (h1 : 2 ^ m < n) (h2 : n ≤ 2 ^ (m + 1)) (hk : k ≤ m) : 2 * 2 ^ k < n ↔ k < m := by
  constructor
  · intro h
    rcases Nat.lt_or_ge k m with h3 | h3
    · exact h3
    · exfalso
      have : k = m := by omega
      subst this
      rw [Nat.pow_succ] at h2
      omega
  · intro h
    have := Nat.pow_le_pow_right (n := 2) (by decide) (show k + 1 ≤ m from h)
    rw [Nat.pow_succ] at this
    omega

set_option maxRecDepth 100000 in
set_option maxHeartbeats 400000 in
theorem half_any (w : World) (m n : Nat) (h1 : 2 ^ m < n) (h2 : n ≤ 2 ^ (m + 1)) (hm : m ≤ 20) :
    Calls Try.prog 111 #[.int .i64 (n : Int)] w fun e w' => e = .returned (.int .i64 ((2 ^ m : Nat) : Int)) ∧ w' = w := by
  have HM := Lib.hid (And.intro h1 (And.intro h2 hm))
  obtain ⟨Z, hZ⟩ : ∃ Z : Nat, Z = 2 ^ m := ⟨_, rfl⟩
  rw [← hZ]
  have HZ := Lib.hid hZ
  have hN : n ≤ 2097152 := by
    have := Nat.pow_le_pow_right (n := 2) (by decide) (show m + 1 ≤ 21 by omega)
    omega
  have iN : (n : Int) ≤ 2097152 := by omega
  clear h1 h2 hm hZ hN
  go_enter Try.func111, Try.ntmps111
  go_wp2
  go_loopw [3] (fun v3 wr => wr = w ∧ ∃ k p : Nat, k ≤ m ∧ p = 2 ^ k ∧ v3 = .int .i64 (p : Int))
    (fun v _ => n - (intOf v).toNat)
  case atStart => exact ⟨rfl, 0, 1, by omega, rfl, rfl⟩
  case round =>
    obtain ⟨rfl, k, p, hk, hp, rfl⟩ := hrel
    have hpp : 0 < p := by rw [hp]; exact Nat.pow_pos (by decide)
    have hs := half_step m n k HM.out.1 HM.out.2.1 hk
    rw [← hp] at hs
    have hpn : p < n := by
      have := Nat.pow_le_pow_right (n := 2) (by decide) hk
      have := HM.out.1
      omega
    have HP := Lib.hid hp
    have ip : (p : Int) < 2097152 := by omega
    clear hp
    by_cases hkm : k < m
    · have j1 : 2 * (p : Int) < (n : Int) := by have := hs.2 hkm; omega
      have HK := Lib.hid hkm
      have HPP := Lib.hid (And.intro hpp hpn)
      clear hs hkm hk hpp hpn
      go_wp2
      go_roundw
      case rel => exact ⟨trivial, k + 1, 2 * p, HK.out, by rw [HP.out, Nat.pow_succ]; omega, by go_num⟩
      case measure => simp only [intOf]; have := HPP.out; omega
    · have j1 : ¬ (2 * (p : Int) < (n : Int)) := by
        intro h
        exact hkm (hs.1 (by omega))
      have hpz : p = Z := by rw [HP.out, HZ.out, show k = m by omega]
      subst hpz
      clear hs hkm hk hpp hpn
      go_wp2
      go_ret
      exact ⟨rfl, rfl⟩

end Go.Proofs.Ytkbahhnjoidhcaa

/- Merkle: the reference's roots and paths: the walks. -/
namespace Go.Proofs.Ytkbahhnjoidhcaa
set_option linter.unusedVariables false
set_option linter.unusedSimpArgs false
open Go.RowKit Go.Lib

theorem Hs.take {w : World} {a : Option Addr} {n c : Nat} {l : List Bs} (h : Hs w (.slice a n c) l) (hn : n = l.length) (k : Nat) (hk : k ≤ n) : Hs w (.slice a k c) (l.take k) := by
  have h1 := h.part hn 0 k (by omega)
  have h2 : (if c = 0 then a else a.map (·.add (0 * 32))) = a := by
    rw [Nat.zero_mul]
    split
    · rfl
    · cases a <;> rfl
  rw [h2, Nat.sub_zero, List.drop_zero] at h1
  exact h1

theorem Hs.drop {w : World} {a : Option Addr} {n c : Nat} {l : List Bs} (h : Hs w (.slice a n c) l) (hn : n = l.length) (o : Nat) (ho : o ≤ n) : Hs w (.slice (if c = o then a else a.map (·.add (o * 32))) (n - o) (c - o)) (l.drop o) := by
  have h1 := h.part hn o (n - o) (by omega)
  rwa [List.take_of_length_le (by rw [List.length_drop]; omega)] at h1

theorem Hs.cap {w : World} {a : Option Addr} {n c : Nat} {l : List Bs} (h : Hs w (.slice a n c) l) : n ≤ c := by
  rcases h.2.2 with ⟨he, h0⟩ | ⟨ad, c', he, h1, h2, _⟩
  · simp only [Value.slice.injEq] at he
    omega
  · simp only [Value.slice.injEq] at he
    obtain ⟨_, rfl, rfl⟩ := he
    exact h1

theorem leftM_h32 (m : Nat) (l : List Bs) (h : H32 l) (h1 : 1 ≤ l.length) (h2 : l.length ≤ 2 ^ m) : (leftM knotB [] m l).length = 32 := by
  have h3 := upN_left knotB [] m l h1 h2
  have h4 := upN_h32 h m
  rw [h3] at h4
  exact h4 _ (by simp)

set_option maxRecDepth 100000 in
set_option maxHeartbeats 1000000 in
theorem rleft_any (m : Nat) (hm : m ≤ 20) : ∀ (w : World) (v : Value) (l : List Bs), Hs w v l → 1 ≤ l.length → l.length ≤ 2 ^ m →
    Calls Try.prog 98 #[v] w fun e w' => e = .returned (.agg (bvs (leftM knotB [] m (l.map leafB))).toArray) ∧ Below w.heap.size w w' := by
  induction m with
  | zero =>
    intro w v l h h1 h2
    have hl : l.length = 1 := by simp at h2; omega
    obtain ⟨x, rfl⟩ := List.length_eq_one_iff.1 hl
    obtain ⟨ad, c, rfl⟩ := h.isSome (n := 1) rfl (by decide)
    have hx := Lib.hid (h.1.get (i := 0) rfl)
    have hc : Hid (∀ j u, (bvs x)[j]? = some u → w.cell? (ad.add j) = some u) := Lib.hid (by have := h.elem' (i := 0) rfl; simpa [Addr.add] using this)
    have hZl : Hid ((leafB x).length = 32) := Lib.hid (leafB_length x)
    show Calls _ _ _ _ fun e w' => e = .returned (.agg (bvs (leafB x)).toArray) ∧ _
    clear h h1 h2 hl
    go_enter Try.func98, Try.ntmps98
    go_wp2_with (with_reducible refine stopAt 9 ?_)
    refine Stop.go ?_
    obtain ⟨w1, h1, k1, b1, s1⟩ := alloc_cb w 24 (bvs (List.replicate 32 0))
    change wpList _ _ _ _ _ (w.alloc (.cells (bvs (List.replicate 32 0)).toArray 24))
    rw [← h1]
    have K1 := Lib.hid k1
    have B1 := Lib.hid b1
    have C1 : Hid (∀ j u, (bvs x)[j]? = some u → w1.cell? (ad.add j) = some u) := Lib.hid (fun j u hj => by
      have h0 := hc.out j u hj
      rw [b1.cell (p := ad.add j) (block_lt_of_cell h0)]
      exact h0)
    clear h1 k1 b1 s1
    refine wpList_load_agg rfl 24 (.tmp 8) rfl (ad) rfl (bvs x) _ (C1.out) Try.underlying24 rfl (by rw [bvs_length, hx.out]; exact infoHash) ?_
    go_wp2_with fail
    refine (rleaf_any w1 x hx.out).mono ?_
    rintro e w2 ⟨rfl, b2⟩
    have K2 := Lib.hid (K1.out.fresh b2)
    have B2 := Lib.hid (B1.out.tr b2)
    clear b2
    go_wp2_with (with_reducible refine stopStore 24 ?_)
    refine Stop.go ?_
    refine wpList_store_var rfl 24 (.tmp 2) (.tmp 10) rfl (w.heap.size) _ rfl _ (bvs (leafB x)) rfl K2.out (by simp [hZl.out]) (bvs_one _) (by rw [bvs_length, hZl.out]; exact infoHash) ?_
    intro wf kf of
    have BF : Hid (Below w.heap.size w wf) := Below.only B2.out of (by omega)
    have KF := Lib.hid kf
    clear kf of
    go_wp2
    exact bodyPost_ret (results_cell1 rfl _ _ (w.heap.size) _ _ _ _ rfl KF.out Try.underlying24 rfl (by simp [hZl.out, infoHash])) rfl ⟨rfl, BF.out⟩
  | succ m ih =>
    intro w v l h h1 h2
    have ih := ih (by omega)
    rw [leftM]
    by_cases hle : l.length ≤ 2 ^ m
    · rw [if_pos (by rw [List.length_map]; exact hle)]
      exact ih w v l h h1 hle
    · rw [if_neg (by rw [List.length_map]; exact hle), ← List.map_take, ← List.map_drop]
      obtain ⟨a0, c0, rfl⟩ := h.slice
      obtain ⟨N, hN⟩ : ∃ N, N = l.length := ⟨_, rfl⟩
      rw [← hN] at h h1 h2 hle ⊢
      obtain ⟨p, hp⟩ : ∃ p, p = 2 ^ m := ⟨_, rfl⟩
      have CH := fun w0 => half_any w0 m N (by omega) h2 (by omega)
      rw [← hp] at hle CH ⊢
      have hpl : 2 ^ (m + 1) = p * 2 := by rw [hp, Nat.pow_succ]
      have ht : (l.take p).length = p := by rw [List.length_take]; omega
      have hd : (l.drop p).length = N - p := by rw [List.length_drop, hN]
      have hp0 : 0 < p := by rw [hp]; exact Nat.pow_pos (by decide)
      have C1 := fun w0 v0 h0 => ih w0 v0 (l.take p) h0 (by omega) (by omega)
      have C2 := fun w0 v0 h0 => ih w0 v0 (l.drop p) h0 (by omega) (by omega)
      obtain ⟨X, hX⟩ : ∃ X, X = leftM knotB [] m ((l.take p).map leafB) := ⟨_, rfl⟩
      obtain ⟨Y, hY⟩ : ∃ Y, Y = leftM knotB [] m ((l.drop p).map leafB) := ⟨_, rfl⟩
      rw [← hX] at C1
      rw [← hY] at C2
      rw [← hX, ← hY]
      have hXl : X.length = 32 := by rw [hX]; exact leftM_h32 m _ (leaves_h32 _) (by rw [List.length_map]; omega) (by rw [List.length_map]; omega)
      have hYl : Y.length = 32 := by rw [hY]; exact leftM_h32 m _ (leaves_h32 _) (by rw [List.length_map]; omega) (by rw [List.length_map]; omega)
      have bN : N ≤ 1048576 := by
        have := Nat.pow_le_pow_right (n := 2) (by decide) (show m + 1 ≤ 20 from hm)
        omega
      have hZl : Hid ((knotB X Y).length = 32) := Lib.hid (knotB_length _ _)
      have hcap := h.cap
      have i1 : ¬ ((N : Int) = 1) := by omega
      have i2 : (p : Int) ≤ (N : Int) := by omega
      have i3 : (N : Int) ≤ (c0 : Int) := by omega
      replace C1 := Lib.hid C1
      replace C2 := Lib.hid C2
      replace CH := Lib.hid CH
      have H := Lib.hid h
      have HL := Lib.hid (And.intro hXl (And.intro hYl (And.intro (show p ≤ N by omega) hN)))
      clear h h1 h2 hle hp hpl ht hd hp0 hX hY hXl hYl bN hcap ih hN
      go_enter Try.func98, Try.ntmps98
      go_wp2_with fail
      obtain ⟨w1, h1, k1, b1, s1⟩ := alloc_cb w 24 (bvs (List.replicate 32 0))
      change Calls _ _ _ (w.alloc (.cells (bvs (List.replicate 32 0)).toArray 24)) _
      rw [← h1]
      refine (CH.out _).mono ?_
      rintro e w2 ⟨rfl, rfl⟩
      have K1 : Hid (CB w2.drew 24 w.heap.size (bvs (List.replicate 32 0))) := Lib.hid k1
      have B1 : Hid (Below w.heap.size w w2.drew) := Lib.hid b1.drew
      have H1 : Hid (Hs w2.drew (.slice a0 N c0) l) := Lib.hid (H.out.fresh B1.out)
      clear h1 k1 b1 s1
      obtain ⟨A, hA⟩ : ∃ A : Option Addr, A = if c0 = p then a0 else a0.map (·.add (p * 32)) := ⟨_, rfl⟩
      have hA' := Lib.hid hA
      clear hA
      go_wp2_with fail
      refine pl_start 10 rfl (fun _ => True) (by kernel_rfl) ?_
      obtain ⟨w3, hw3⟩ : ∃ w3, w3 = w2.drew := ⟨_, rfl⟩
      rw [← hw3] at K1 B1 H1 ⊢
      clear hw3
      refine pl_take (i := 0) 14 rfl rfl rfl (by kernel_rfl) (by kernel_rfl) (by kernel_rfl) (by simp [Act.put]) trivial ?_
      apply Exists.intro
      refine And.intro (fun w' hS' => ?_) ?_
      · go_wp2
        first
          | exact ⟨trivial, rfl⟩
          | exact rfl
      refine pl_take (i := 1) 15 rfl rfl rfl (by kernel_rfl) (by kernel_rfl) (by kernel_rfl) (by simp [Act.put]) trivial ?_
      apply Exists.intro
      refine And.intro (fun w' hS' => ?_) ?_
      · go_wp2
        first
          | exact ⟨trivial, rfl⟩
          | exact rfl
      refine pl_take (i := 2) 16 rfl rfl rfl (by kernel_rfl) (by kernel_rfl) (by kernel_rfl) (by simp [Act.put]) trivial ?_
      apply Exists.intro
      refine And.intro (fun w' hS' => ?_) ?_
      · refine wpList_slice rfl 22 (.tmp 14) _ _ _ rfl (.slice a0 p c0) (run_slice_to Try.underlying22 infoHash a0 N c0 p (by omega)) ?_
        go_wp2
        exact ⟨trivial, rfl⟩
      refine pl_take (i := 4) 18 rfl rfl rfl (by kernel_rfl) (by kernel_rfl) (by kernel_rfl) (by simp [Act.put]) trivial ?_
      apply Exists.intro
      refine And.intro (fun w' hS' => ?_) ?_
      · go_wp2
        first
          | exact ⟨trivial, rfl⟩
          | exact rfl
      refine pl_take (i := 5) 19 rfl rfl rfl (by kernel_rfl) (by kernel_rfl) (by kernel_rfl) (by simp [Act.put]) trivial ?_
      apply Exists.intro
      refine And.intro (fun w' hS' => ?_) ?_
      · go_wp2
        first
          | exact ⟨trivial, rfl⟩
          | exact rfl
      refine pl_take (i := 6) 20 rfl rfl rfl (by kernel_rfl) (by kernel_rfl) (by kernel_rfl) (by simp [Act.put]) trivial ?_
      apply Exists.intro
      refine And.intro (fun w' hS' => ?_) ?_
      · refine wpList_slice rfl 22 (.tmp 18) _ _ _ rfl (.slice A _ _) (by rw [hA'.out]; exact run_slice_from Try.underlying22 infoHash a0 N c0 p (by omega)) ?_
        go_wp2
        exact ⟨trivial, rfl⟩
      refine pl_heavy (i := 3) rfl (by kernel_rfl) ?_
      go_wp2_with fail
      refine (C1.out w3 _ (H1.out.take HL.out.2.2.2 p HL.out.2.2.1)).mono ?_
      rintro e w4 ⟨rfl, b4⟩
      have K4 := Lib.hid (K1.out.fresh b4)
      have B4 := Lib.hid (B1.out.tr b4)
      have H4 := Lib.hid (H1.out.fresh b4)
      clear b4 K1 B1 H1
      go_wp2
      first
        | refine And.intro trivial ?_
        | skip
      refine pl_heavy (i := 7) rfl (by kernel_rfl) ?_
      go_wp2_with fail
      refine (C2.out w4 _ (by have := H4.out.drop HL.out.2.2.2 p HL.out.2.2.1; rw [← hA'.out] at this; exact this)).mono ?_
      rintro e w5 ⟨rfl, b5⟩
      have K5 := Lib.hid (K4.out.fresh b5)
      have B5 := Lib.hid (B4.out.tr b5)
      clear b5 K4 B4 H4
      go_wp2
      first
        | refine And.intro trivial ?_
        | skip
      refine pl_heavy (i := 8) rfl (by kernel_rfl) ?_
      go_wp2_with fail
      refine (rknot_any w5 X Y HL.out.1 HL.out.2.1).mono ?_
      rintro e w6 ⟨rfl, b6⟩
      have K6 := Lib.hid (K5.out.fresh b6)
      have B6 := Lib.hid (B5.out.tr b6)
      clear b6 K5 B5
      go_wp2
      first
        | refine And.intro trivial ?_
        | skip
      refine pl_heavy (i := 9) rfl (by kernel_rfl) ?_
      refine wpList_store_var rfl 24 (.tmp 2) (.tmp 22) rfl (w.heap.size) _ rfl _ (bvs (knotB X Y)) rfl K6.out (by simp [hZl.out]) (bvs_one _) (by rw [bvs_length, hZl.out]; exact infoHash) ?_
      intro wf kf of
      have BF : Hid (Below w.heap.size w wf) := Below.only B6.out of (by omega)
      have KF := Lib.hid kf
      clear kf
      go_wp2
      first
        | refine And.intro trivial ?_
        | skip
      refine pl_done (by kernel_rfl) ?_
      go_wp2
      exact bodyPost_ret (results_cell1 rfl _ _ (w.heap.size) _ _ _ _ rfl KF.out Try.underlying24 rfl (by simp [hZl.out, infoHash])) rfl ⟨rfl, BF.out⟩

end Go.Proofs.Ytkbahhnjoidhcaa

/- (root) Merkle: the reference's roots, sizes, paths: the walks. -/
namespace Go.Proofs.Ytkbahhnjoidhcaa
set_option linter.unusedVariables false
set_option linter.unusedSimpArgs false
open Go.RowKit Go.Lib

set_option maxRecDepth 100000 in
set_option maxHeartbeats 1000000 in
theorem rroot_any (w : World) (v : Value) (l : List Bs) (h : Hs w v l) (hl : l.length ≤ 1048576) :
    Calls Try.prog 73 #[v] w fun e w' => e = .returned (.agg (bvs (rootB l)).toArray) ∧ Below w.heap.size w w' := by
  obtain ⟨a0, c0, rfl⟩ := h.slice
  obtain ⟨Z, hZ⟩ : ∃ Z, Z = rootB l := ⟨_, rfl⟩
  have hZl : Hid (Z.length = 32) := Lib.hid (by rw [hZ]; exact topB_length _ _)
  obtain ⟨N, hN⟩ : ∃ N, N = l.length := ⟨_, rfl⟩
  rw [← hZ]
  by_cases h0 : N = 0
  · have hl0 : l = [] := List.eq_nil_of_length_eq_zero (by omega)
    have hz : Hid (Z = topB 0 []) := Lib.hid (by rw [hZ, hl0]; rfl)
    rw [← hN]
    subst h0
    clear h hl hZ hN hl0
    go_enter Try.func73, Try.ntmps73
    go_wp2_with fail
    obtain ⟨w1, h1, k1, b1, s1⟩ := alloc_cb w 24 (bvs (List.replicate 32 0))
    change Calls _ _ _ (w.alloc (.cells (bvs (List.replicate 32 0)).toArray 24)) _
    rw [← h1]
    refine (rtop_any w1 0 (.slice none 0 0) [] (by omega) (Rd.nil _ _) (by simp)).mono ?_
    rintro e w2 ⟨rfl, b2⟩
    rw [← hz.out]
    have B2 := Lib.hid (b1.tr b2)
    have K2 := Lib.hid (k1.fresh b2)
    clear b1 b2 k1 s1 h1
    go_wp2_with (with_reducible refine stopStore 24 ?_)
    refine Stop.go ?_
    refine wpList_store_var rfl 24 (.tmp 2) (.tmp 7) rfl (w.heap.size) _ rfl _ (bvs Z) rfl K2.out (by simp [hZl.out]) (bvs_one _) (by rw [bvs_length, hZl.out]; exact infoHash) ?_
    intro wf kf of
    have BF : Hid (Below w.heap.size w wf) := Below.only B2.out of (by omega)
    have KF := Lib.hid kf
    clear kf of
    go_wp2
    exact bodyPost_ret (results_cell1 rfl _ _ (w.heap.size) _ _ _ _ rfl KF.out Try.underlying24 rfl (by simp [hZl.out, infoHash])) rfl ⟨rfl, BF.out⟩
  · obtain ⟨Y, hY⟩ : ∃ Y, Y = leftM knotB [] 20 (l.map leafB) := ⟨_, rfl⟩
    have hz : Hid (Z = topB N Y) := Lib.hid (by rw [hZ, rootB, if_neg (by intro e; rw [e] at hN; simp at hN; omega), hY, hN])
    have CL := fun w0 h0 => rleft_any 20 (by omega) w0 (.slice a0 l.length c0) l h0 (by omega) (by omega)
    rw [← hY] at CL
    have hYl : Hid (Y.length = 32) := Lib.hid (by rw [hY]; exact leftM_h32 20 _ (leaves_h32 _) (by rw [List.length_map]; omega) (by rw [List.length_map]; omega))
    rw [← hN] at CL h hl ⊢
    replace CL := Lib.hid CL
    have H := Lib.hid h
    have i1 : ¬ ((N : Int) = 0) := by omega
    have HL := Lib.hid hl
    clear h hl hN hZ hY h0
    go_enter Try.func73, Try.ntmps73
    go_wp2_with fail
    obtain ⟨w1, h1, k1, b1, s1⟩ := alloc_cb w 24 (bvs (List.replicate 32 0))
    change Calls _ _ _ (w.alloc (.cells (bvs (List.replicate 32 0)).toArray 24)) _
    rw [← h1]
    refine (CL.out w1 (H.out.fresh b1)).mono ?_
    rintro e w2 ⟨rfl, b2⟩
    have B2 := Lib.hid (b1.tr b2)
    have K2 := Lib.hid (k1.fresh b2)
    clear b1 b2 k1 s1 h1
    go_wp2_with (with_reducible refine stopStore 24 ?_)
    refine Stop.go ?_
    refine wpList_store_var rfl 24 (.tmp 3) (.tmp 9) rfl w2.heap.size _ rfl _ (bvs Y) rfl (heap_alloc_new w2 _) (by simp [hYl.out]) (bvs_one _) (by rw [bvs_length, hYl.out]; exact infoHash) ?_
    intro w3 kw3 ow3
    have bw3 : Below w2.heap.size w2 w3 := Below.only ((Below.refl _ w2).alloc (Nat.le_refl _) _) ow3 (Nat.le_refl _)
    replace kw3 : CB w3 24 w2.heap.size (bvs Y) := kw3
    clear ow3
    have B3 := Lib.hid (B2.out.tr bw3)
    have K3 := Lib.hid (K2.out.fresh bw3)
    have R3 := Lib.hid (CB.rd32 kw3 hYl.out)
    clear bw3 kw3 B2 K2
    go_wp2_with fail
    refine (rtop_any w3 N _ Y (by have := HL.out; omega) R3.out (by rw [hYl.out]; decide)).mono ?_
    rintro e w4 ⟨rfl, b4⟩
    rw [← hz.out]
    have B4 := Lib.hid (B3.out.tr b4)
    have K4 := Lib.hid (K3.out.fresh b4)
    clear b4 R3 B3 K3
    go_wp2_with (with_reducible refine stopStore 24 ?_)
    refine Stop.go ?_
    refine wpList_store_var rfl 24 (.tmp 2) (.tmp 13) rfl (w.heap.size) _ rfl _ (bvs Z) rfl K4.out (by simp [hZl.out]) (bvs_one _) (by rw [bvs_length, hZl.out]; exact infoHash) ?_
    intro wf kf of
    have BF : Hid (Below w.heap.size w wf) := Below.only B4.out of (by omega)
    have KF := Lib.hid kf
    clear kf of
    go_wp2
    exact bodyPost_ret (results_cell1 rfl _ _ (w.heap.size) _ _ _ _ rfl KF.out Try.underlying24 rfl (by simp [hZl.out, infoHash])) rfl ⟨rfl, BF.out⟩

end Go.Proofs.Ytkbahhnjoidhcaa
