/- Merkle: leaves, knots, tops: the walks. -/
import Derived.Test.YtbabjepblakboaaSz
import Derived.Test.YtbabjepblakboaaYp
namespace Go.Proofs.Ytbabjepblakboaa
set_option linter.unusedVariables false
set_option linter.unusedSimpArgs false
open Go.RowKit Go.Lib

abbrev Bs := List UInt8

def leafB (x : Bs) : Bs := shaB (textB [108, 101, 97, 102] x)
def knotB (a b : Bs) : Bs := shaB (textB [107, 110, 111, 116] (a ++ b))
def topB (n : Nat) (m : Bs) : Bs := shaB (textB [114, 111, 111, 116] (le n 8 ++ m))

theorem leafB_length (x : Bs) : (leafB x).length = 32 := shaB_length _
theorem knotB_length (x y : Bs) : (knotB x y).length = 32 := shaB_length _
theorem topB_length (n : Nat) (x : Bs) : (topB n x).length = 32 := shaB_length _

/-- Worlds one behind the other. -/
theorem _root_.Go.RowKit.Below.tr {u v w : World} (h : Below u.heap.size u v) (g : Below v.heap.size v w) : Below u.heap.size u w := h.trans (g.mono h.size)

theorem Pts.two (w : World) (t : TypeId) (u v : Value) (x y : Bs) (hx : Rd w 1 u x.length (bvs x)) (hy : Rd w 1 v y.length (bvs y)) : Pts (w.alloc (.cells #[u, v] t)) (.slice (some ⟨w.heap.size, 0, none⟩) 2 2) [x, y] := by
  have hb : Below w.heap.size w (w.alloc (.cells #[u, v] t)) := (Below.refl _ w).alloc (Nat.le_refl _) _
  refine ⟨[u, v], ?_, ?_⟩
  · refine ⟨rfl, .inr ⟨_, _, rfl, by simp, by simp [maxLen], fun j z hj => ?_⟩⟩
    rw [add_at, Nat.zero_add]
    exact (CB.new w t [u, v]).cell j z hj
  · intro i z hz
    match i, hz with
    | 0, hz => simp at hz; subst hz; exact ⟨_, rfl, hx.fresh hb⟩
    | 1, hz => simp at hz; subst hz; exact ⟨_, rfl, hy.fresh hb⟩
    | n + 2, hz => simp at hz

theorem alloc_one (w : World) (t : TypeId) (u : Value) (x : Bs) (hx : Rd w 1 u x.length (bvs x)) :
    ∃ w', w' = w.alloc (.cells #[u] t) ∧ Pts w' (.slice (some ⟨w.heap.size, 0, none⟩) 1 1) [x] ∧ Below w.heap.size w w' ∧ w'.heap.size = w.heap.size + 1 :=
  ⟨_, rfl, Pts.one w t u x hx, (Below.refl _ w).alloc (Nat.le_refl _) _, Array.size_push _⟩

theorem alloc_two (w : World) (t : TypeId) (u v : Value) (x y : Bs) (hx : Rd w 1 u x.length (bvs x)) (hy : Rd w 1 v y.length (bvs y)) :
    ∃ w', w' = w.alloc (.cells #[u, v] t) ∧ Pts w' (.slice (some ⟨w.heap.size, 0, none⟩) 2 2) [x, y] ∧ Below w.heap.size w w' ∧ w'.heap.size = w.heap.size + 1 :=
  ⟨_, rfl, Pts.two w t u v x y hx hy, (Below.refl _ w).alloc (Nat.le_refl _) _, Array.size_push _⟩

theorem CB.rd32 {w : World} {e : TypeId} {g : Nat} {x : Bs} (h : CB w e g (bvs x)) (hx : x.length = 32) : Rd w 1 (.slice (some ⟨g, 0, none⟩) 32 32) x.length (bvs x) := by
  have := h.rdAll (by rw [bvs_length, hx]; decide)
  rw [bvs_length, hx] at this
  rw [hx]
  exact this

set_option maxRecDepth 100000 in
theorem leaf_any (w : World) (x : Bs) (hx : x.length = 32) :
    Calls Try.prog 110 #[.agg (bvs x).toArray] w fun e w' => e = .returned (.agg (bvs (leafB x)).toArray) ∧ Below w.heap.size w w' := by
  obtain ⟨Z, hZ⟩ : ∃ Z, Z = leafB x := ⟨_, rfl⟩
  have hZl : Hid (Z.length = 32) := Lib.hid (by rw [hZ]; exact leafB_length _)
  have CT := fun w0 v0 h0 => tag_any w0 v0 [108, 101, 97, 102] [x] h0 (by simp) (by simp; omega) (by simp)
  rw [show shaB (textB [108, 101, 97, 102] ([x] : List Bs).flatten) = Z by rw [hZ]; simp [leafB]] at CT
  rw [← hZ]
  replace CT := Lib.hid CT
  have HX := Lib.hid hx
  clear hx hZ
  go_enter Try.func110, Try.ntmps110
  go_wp2_with fail
  obtain ⟨w1, h1, k1, b1, s1⟩ := alloc_cb w 24 (bvs x)
  obtain ⟨w2, h2, k2, b2, s2⟩ := alloc_cb w1 24 (bvs (List.replicate 32 0))
  obtain ⟨w3, h3, p3, b3, s3⟩ := alloc_one w2 42 _ x ((k1.rd32 HX.out).fresh b2)
  change Calls _ _ _ (((w.alloc (.cells (bvs x).toArray 24)).alloc (.cells (bvs (List.replicate 32 0)).toArray 24)).alloc (.cells #[.slice (some ⟨w.heap.size, 0, none⟩) 32 32] 42)) _
  rw [← h1, ← h2, ← h3]
  rw [s1] at s2 k2
  rw [s2] at p3
  refine (CT.out _ _ p3).mono ?_
  rintro e w4 ⟨rfl, b4⟩
  have B4 : Hid (Below w.heap.size w w4) := ((b1.tr b2).tr b3).tr b4
  have K4 := Lib.hid ((k2.fresh b3).fresh b4)
  clear p3 b4 k1 k2 b1 b2 b3 s1 s2 s3 h1 h2 h3
  go_wp2_with (with_reducible refine stopStore 24 ?_)
  refine Stop.go ?_
  refine wpList_store_var rfl 24 (.tmp 2) (.tmp 5) rfl (w.heap.size + 1) _ rfl _ (bvs Z) rfl K4.out (by simp [hZl.out]) (bvs_one _) (by rw [bvs_length, hZl.out]; exact infoHash) ?_
  intro wf kf of
  have BF : Hid (Below w.heap.size w wf) := Below.only B4.out of (by omega)
  have KF := Lib.hid kf
  clear kf of
  go_wp2
  exact bodyPost_ret (results_cell1 rfl _ _ (w.heap.size + 1) _ _ _ _ rfl KF.out Try.underlying24 rfl (by simp [hZl.out, infoHash])) rfl ⟨rfl, BF.out⟩

set_option maxRecDepth 100000 in
set_option maxHeartbeats 300000 in
theorem knot_any (w : World) (x y : Bs) (hx : x.length = 32) (hy : y.length = 32) :
    Calls Try.prog 111 #[.agg (bvs x).toArray, .agg (bvs y).toArray] w fun e w' => e = .returned (.agg (bvs (knotB x y)).toArray) ∧ Below w.heap.size w w' := by
  obtain ⟨Z, hZ⟩ : ∃ Z, Z = knotB x y := ⟨_, rfl⟩
  have hZl : Hid (Z.length = 32) := Lib.hid (by rw [hZ]; exact knotB_length _ _)
  have CT := fun w0 v0 h0 => tag_any w0 v0 [107, 110, 111, 116] [x, y] h0 (by simp) (by simp; omega) (by simp)
  rw [show shaB (textB [107, 110, 111, 116] ([x, y] : List Bs).flatten) = Z by rw [hZ]; simp [knotB]] at CT
  rw [← hZ]
  replace CT := Lib.hid CT
  have HX := Lib.hid hx
  have HY := Lib.hid hy
  clear hx hy hZ
  go_enter Try.func111, Try.ntmps111
  go_wp2_with fail
  obtain ⟨w1, h1, k1, b1, s1⟩ := alloc_cb w 24 (bvs x)
  obtain ⟨w2, h2, k2, b2, s2⟩ := alloc_cb w1 24 (bvs y)
  obtain ⟨w3, h3, k3, b3, s3⟩ := alloc_cb w2 24 (bvs (List.replicate 32 0))
  change Code.wp _ _ _ _ (((w.alloc (.cells (bvs x).toArray 24)).alloc (.cells (bvs y).toArray 24)).alloc (.cells (bvs (List.replicate 32 0)).toArray 24))
  rw [← h1, ← h2, ← h3]
  obtain ⟨w4, h4, p4, b4, s4⟩ := alloc_two w3.drew 42 (.slice (some ⟨w.heap.size, 0, none⟩) 32 32) (.slice (some ⟨w.heap.size + 1, 0, none⟩) 32 32) x y (((k1.rd32 HX.out).fresh b2).fresh b3.drew) (by have := (k2.rd32 HY.out).fresh b3.drew; rw [s1] at this; exact this)
  have b34 : Below w3.heap.size w3 w4 := (Below.refl _ w3).drew.trans b4
  have k4 := k3.fresh b34
  have B4 := ((b1.tr b2).tr b3).tr b34
  have z3 : w3.heap.size = w.heap.size + 1 + 1 + 1 := by rw [s3, s2, s1]
  have z2 : w2.heap.size = w.heap.size + 1 + 1 := by rw [s2, s1]
  rw [show w3.drew.heap.size = w3.heap.size from rfl] at p4
  rw [z2] at k4
  replace B4 := Lib.hid B4
  have K4 := Lib.hid k4
  have P4 := Lib.hid p4
  have H4 := Lib.hid h4
  have Z3 := Lib.hid z3
  clear p4 b4 b34 s4 k4 k1 k2 k3 b1 b2 b3 s1 s2 s3 h1 h2 h3 h4 z2 z3
  refine pl_start 5 rfl (fun _ => True) (by kernel_rfl) ?_
  refine pl_take (i := 0) 5 rfl rfl rfl (by kernel_rfl) (by kernel_rfl) (by kernel_rfl) (by simp [Act.put]) trivial ?_
  apply Exists.intro
  refine And.intro (fun w' hS' => ?_) ?_
  · go_wp2
    exact ⟨trivial, rfl⟩
  refine pl_take (i := 1) 6 rfl rfl rfl (by kernel_rfl) (by kernel_rfl) (by kernel_rfl) (by simp [Act.put]) trivial ?_
  apply Exists.intro
  refine And.intro (fun w' hS' => ?_) ?_
  · go_wp2
    exact ⟨trivial, rfl⟩
  refine pl_heavy (i := 2) rfl (by kernel_rfl) ?_
  go_wp2
  refine And.intro trivial ?_
  change wpAnyH _ _ _ _ _ _ _ _ (w3.drew.alloc (.cells #[.slice (some ⟨w.heap.size, 0, none⟩) 32 32, .slice (some ⟨w.heap.size + 1, 0, none⟩) 32 32] 42))
  rw [← H4.out]
  refine pl_heavy (i := 3) rfl (by kernel_rfl) ?_
  go_wp2_with fail
  refine (CT.out _ _ P4.out).mono ?_
  rintro e w5 ⟨rfl, b5⟩
  have B5 : Hid (Below w.heap.size w w5) := B4.out.tr b5
  have K5 := Lib.hid (K4.out.fresh b5)
  clear b5 P4 H4 B4 K4
  go_wp2
  refine And.intro trivial ?_
  refine pl_heavy (i := 4) rfl (by kernel_rfl) ?_
  refine wpList_store_var rfl 24 (.tmp 4) (.tmp 8) rfl (w.heap.size + 1 + 1) _ rfl _ (bvs Z) rfl K5.out (by simp [hZl.out]) (bvs_one _) (by rw [bvs_length, hZl.out]; exact infoHash) ?_
  intro wf kf of
  have BF : Hid (Below w.heap.size w wf) := Below.only B5.out of (by omega)
  have KF := Lib.hid kf
  clear kf of
  go_wp2
  refine And.intro trivial ?_
  refine pl_done (by kernel_rfl) ?_
  go_wp2
  exact bodyPost_ret (results_cell1 rfl _ _ (w.heap.size + 1 + 1) _ _ _ _ rfl KF.out Try.underlying24 rfl (by simp [hZl.out, infoHash])) rfl ⟨rfl, BF.out⟩

set_option maxRecDepth 100000 in
set_option maxHeartbeats 400000 in
theorem mnumber_any (w : World) (m : Nat) (hm : m ≤ 1099511627776) :
    Calls Try.prog 142 #[.int .i64 (m : Int)] w fun e w' =>
      e = .returned (.slice (some ⟨w.heap.size, 0, none⟩) 8 8) ∧ BB w' 5 w.heap.size (le m 8) ∧ Below w.heap.size w w' := by
  obtain ⟨i0, hi, hz0, hz1, hz2⟩ := info_parts infoU8
  have h0 : (0 : Int) ≤ (m : Int) := by omega
  have HM := Lib.hid hm
  clear hm
  go_enter Try.func142, Try.ntmps142
  go_wp2_with (at_make; apply Stop.mk)
  refine Stop.go ?_
  refine wpList_make_full _ rfl _ _ 42 rfl w.heap.size 5 i0 (.int .u8 0) 1 Try.underlying42 hi hz0 hz1 _ _ _ _ 8 rfl rfl rfl rfl (by rw [hz2]; omega) (by unfold maxLen; omega) (Nat.le_refl _) ?_
  intro w1 hown hgr
  have hb1 : BB w1 5 w.heap.size (le m 0 ++ List.replicate (8 - 0) 0) := by
    refine BB.full (base := w.heap.size) (n := 8) ?_
    simpa [le, bvs, bv, Value.cells, toList_madeCells_one] using hown
  have Hb1 := Lib.hid hb1; clear hb1
  have Hbl : Hid (Below w.heap.size w w1) := Below.grown (Below.refl _ w) hgr (Nat.le_refl _) (by simp)
  clear hgr hown
  go_wp2
  go_loopw [8] (fun v wr => ∃ k : Nat, k ≤ 8 ∧ v = .int .i64 (k : Int) ∧ BB wr 5 w.heap.size (le m k ++ List.replicate (8 - k) 0) ∧ Below w.heap.size w wr)
    (fun v _ => 8 - (intOf v).toNat)
  case atStart => exact ⟨0, Nat.zero_le _, rfl, Hb1.out, Hbl.out⟩
  case round =>
    obtain ⟨k, hk, rfl, hb, hbl⟩ := hrel
    have hc : k < 8 → wr.cell? ⟨w.heap.size, k, none⟩ = some (.int .u8 0) := fun h => by
      have := hb.cell k 0 (by rw [List.getElem?_append_right (by simp [le_length]), le_length, Nat.sub_self, List.getElem?_replicate, if_pos (by omega)])
      simpa [bv] using this
    have hf : wr.frozen? ⟨w.heap.size, k, none⟩ = false := hb.free k
    have Hb := Lib.hid hb; clear hb
    have Hbl2 := Lib.hid hbl; clear hbl
    by_cases h8 : k < 8
    · have i8 : (k : Int) < 8 := by omega
      have hc' := hc h8
      have HC := Lib.hid h8
      clear hc h8
      go_wp2
      go_roundw
      case rel =>
        refine ⟨k + 1, by omega, by go_num, ?_, ?_⟩
        · rw [← le_step m k 8 (by assumption)]
          have := Hb.out.set k (UInt8.ofNat (m / 2 ^ (8 * k)))
          rw [bv_ofNat] at this
          simpa using this
        · exact Hbl2.out.setCell (p := ⟨w.heap.size, k, none⟩) (Nat.le_refl _) _
      case measure => simp [intOf]; omega
    · have hks : k = 8 := by omega
      subst hks
      go_wp2
      go_ret
      exact ⟨rfl, by simpa using Hb.out, Hbl2.out⟩

set_option maxRecDepth 100000 in
set_option maxHeartbeats 400000 in
theorem top_any (w : World) (n : Nat) (v : Value) (m : Bs) (hn : n ≤ 1099511627776) (hv : Rd w 1 v m.length (bvs m)) (hm : m.length ≤ 1000000) :
    Calls Try.prog 107 #[.int .i64 (n : Int), v] w fun e w' => e = .returned (.agg (bvs (topB n m)).toArray) ∧ Below w.heap.size w w' := by
  obtain ⟨a0, c0, rfl⟩ := hv.slice
  obtain ⟨Z, hZ⟩ : ∃ Z, Z = topB n m := ⟨_, rfl⟩
  have hZl : Hid (Z.length = 32) := Lib.hid (by rw [hZ]; exact topB_length _ _)
  obtain ⟨N, hN⟩ : ∃ N, N = le n 8 := ⟨_, rfl⟩
  have hNl : N.length = 8 := by rw [hN]; simp
  have CT := fun w0 v0 h0 => tag_any w0 v0 [114, 111, 111, 116] [N, m] h0 (by simp) (by simp; omega) (by simp)
  rw [show shaB (textB [114, 111, 111, 116] ([N, m] : List Bs).flatten) = Z by rw [hZ, hN]; simp [topB]] at CT
  have CN := fun w0 => mnumber_any w0 n hn
  rw [← hN] at CN
  rw [← hZ]
  obtain ⟨k, hk⟩ : ∃ k, k = m.length := ⟨_, rfl⟩
  rw [← hk] at hv ⊢
  replace CT := Lib.hid CT
  replace CN := Lib.hid CN
  have HV := Lib.hid hv
  have HN := Lib.hid hNl
  have HK := Lib.hid hk
  clear hn hv hm hZ hN hNl hk
  go_enter Try.func107, Try.ntmps107
  go_wp2_with fail
  obtain ⟨w1, h1, k1, b1, s1⟩ := alloc_cb w 24 (bvs (List.replicate 32 0))
  change Calls _ _ _ (w.alloc (.cells (bvs (List.replicate 32 0)).toArray 24)) _
  rw [← h1]
  refine (CN.out w1).mono ?_
  rintro e w2 ⟨rfl, r2, b2⟩
  have r2' : Rd w2 1 (.slice (some ⟨w1.heap.size, 0, none⟩) 8 8) 8 (bvs N) := by have := BB.rd r2 0 8 8 (by rw [HN.out]; omega) (by omega) (by decide); simpa [HN.out, List.take_of_length_le (show N.length ≤ 8 by rw [HN.out]; decide)] using this
  obtain ⟨w3, h3, p3, b3, s3⟩ := alloc_two w2 42 _ _ N m (by rw [HN.out]; exact r2') (by rw [← HK.out]; exact (HV.out.fresh b1).fresh b2)
  have B3 : Hid (Below w.heap.size w w3) := (b1.tr b2).tr b3
  have K3 := Lib.hid ((k1.fresh b2).fresh b3)
  have P3 := Lib.hid p3
  have H3 := Lib.hid h3
  clear p3 h3 b1 b2 b3 r2 r2' k1 s1 s3 h1
  go_wp2_with fail
  change Calls _ _ _ (w2.alloc (.cells #[.slice (some ⟨w1.heap.size, 0, none⟩) 8 8, .slice a0 k c0] 42)) _
  rw [← H3.out]
  refine (CT.out _ _ P3.out).mono ?_
  rintro e w4 ⟨rfl, b4⟩
  have B4 : Hid (Below w.heap.size w w4) := B3.out.tr b4
  have K4 := Lib.hid (K3.out.fresh b4)
  clear b4 H3 P3 B3 K3
  go_wp2_with (with_reducible refine stopStore 24 ?_)
  refine Stop.go ?_
  refine wpList_store_var rfl 24 (.tmp 4) (.tmp 9) rfl (w.heap.size) _ rfl _ (bvs Z) rfl K4.out (by simp [hZl.out]) (bvs_one _) (by rw [bvs_length, hZl.out]; exact infoHash) ?_
  intro wf kf of
  have BF : Hid (Below w.heap.size w wf) := Below.only B4.out of (by omega)
  have KF := Lib.hid kf
  clear kf of
  go_wp2
  exact bodyPost_ret (results_cell1 rfl _ _ (w.heap.size) _ _ _ _ rfl KF.out Try.underlying24 rfl (by simp [hZl.out, infoHash])) rfl ⟨rfl, BF.out⟩

end Go.Proofs.Ytbabjepblakboaa
