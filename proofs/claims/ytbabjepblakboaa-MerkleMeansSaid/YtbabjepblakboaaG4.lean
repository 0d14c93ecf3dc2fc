/- Texts Ya Yb Yc Yd Yf Yg RowM, one behind the other. -/
import Derived.Test.YtbabjepblakboaaG3
import Derived.Test.YtbabjepblakboaaG1
import Derived.Great.BuildSlice
import Derived.WalkMore
import Derived.Test.YtbabjepblakboaaG2
/- Merkle: leaves, knots, tops: the walks. -/
namespace Go.Proofs.Ytbabjepblakboaa
set_option linter.unusedVariables false
set_option linter.unusedSimpArgs false
open Go.RowKit Go.Lib

abbrev Bs := List UInt8

def leafB (x : Bs) : Bs := shaB (textB [108, 101, 97, 102] x)
def knotB (a b : Bs) : Bs := shaB (textB [107, 110, 111, 116] (a ++ b))
def topB (n : Nat) (m : Bs) : Bs := shaB (textB [114, 111, 111, 116] (le n 8 ++ m))

theorem leafB_length (x : Bs) : (leafB x).length = 32 := shaB_length _
theorem knotB_length (x y : Bs) : (knotB x y).length = 32 := shaB_length _
theorem topB_length (n : Nat) (x : Bs) : (topB n x).length = 32 := shaB_length _

/-- Worlds one behind the other. -/
theorem _root_.Go.RowKit.Below.tr {u v w : World} (h : Below u.heap.size u v) (g : Below v.heap.size v w) : Below u.heap.size u w := h.trans (g.mono h.size)

theorem Pts.two (w : World) (t : TypeId) (u v : Value) (x y : Bs) (hx : Rd w 1 u x.length (bvs x)) (hy : Rd w 1 v y.length (bvs y)) : Pts (w.alloc (.cells #[u, v] t)) (.slice (some ⟨w.heap.size, 0, none⟩) 2 2) [x, y] := by
  have hb : Below w.heap.size w (w.alloc (.cells #[u, v] t)) := (Below.refl _ w).alloc (Nat.le_refl _) _
  refine ⟨[u, v], ?_, ?_⟩
  · refine ⟨rfl, .inr ⟨_, _, rfl, by simp, by simp [maxLen], fun j z hj => ?_⟩⟩
    rw [add_at, Nat.zero_add]
    exact (CB.new w t [u, v]).cell j z hj
  · intro i z hz
    match i, hz with
    | 0, hz => simp at hz; subst hz; exact ⟨_, rfl, hx.fresh hb⟩
    | 1, hz => simp at hz; subst hz; exact ⟨_, rfl, hy.fresh hb⟩
    | n + 2, hz => simp at hz

theorem alloc_one (w : World) (t : TypeId) (u : Value) (x : Bs) (hx : Rd w 1 u x.length (bvs x)) :
    ∃ w', w' = w.alloc (.cells #[u] t) ∧ Pts w' (.slice (some ⟨w.heap.size, 0, none⟩) 1 1) [x] ∧ Below w.heap.size w w' ∧ w'.heap.size = w.heap.size + 1 :=
  ⟨_, rfl, Pts.one w t u x hx, (Below.refl _ w).alloc (Nat.le_refl _) _, Array.size_push _⟩

theorem alloc_two (w : World) (t : TypeId) (u v : Value) (x y : Bs) (hx : Rd w 1 u x.length (bvs x)) (hy : Rd w 1 v y.length (bvs y)) :
    ∃ w', w' = w.alloc (.cells #[u, v] t) ∧ Pts w' (.slice (some ⟨w.heap.size, 0, none⟩) 2 2) [x, y] ∧ Below w.heap.size w w' ∧ w'.heap.size = w.heap.size + 1 :=
  ⟨_, rfl, Pts.two w t u v x y hx hy, (Below.refl _ w).alloc (Nat.le_refl _) _, Array.size_push _⟩

theorem CB.rd32 {w : World} {e : TypeId} {g : Nat} {x : Bs} (h : CB w e g (bvs x)) (hx : x.length = 32) : Rd w 1 (.slice (some ⟨g, 0, none⟩) 32 32) x.length (bvs x) := by
  have := h.rdAll (by rw [bvs_length, hx]; decide)
  rw [bvs_length, hx] at this
  rw [hx]
  exact this

set_option maxRecDepth 100000 in
theorem leaf_any (w : World) (x : Bs) (hx : x.length = 32) :
    Calls Try.prog 110 #[.agg (bvs x).toArray] w fun e w' => e = .returned (.agg (bvs (leafB x)).toArray) ∧ Below w.heap.size w w' := by
  obtain ⟨Z, hZ⟩ : ∃ Z, Z = leafB x := ⟨_, rfl⟩
  have hZl : Hid (Z.length = 32) := Lib.hid (by rw [hZ]; exact leafB_length _)
  have CT := fun w0 v0 h0 => tag_any w0 v0 [108, 101, 97, 102] [x] h0 (by simp) (by simp; omega) (by simp)
  rw [show shaB (textB [108, 101, 97, 102] ([x] : List Bs).flatten) = Z by rw [hZ]; simp [leafB]] at CT
  rw [← hZ]
  replace CT := Lib.hid CT
  have HX := Lib.hid hx
  clear hx hZ
  go_enter Try.func110, Try.ntmps110
  go_wp2_with fail
  obtain ⟨w1, h1, k1, b1, s1⟩ := alloc_cb w 24 (bvs x)
  obtain ⟨w2, h2, k2, b2, s2⟩ := alloc_cb w1 24 (bvs (List.replicate 32 0))
  obtain ⟨w3, h3, p3, b3, s3⟩ := alloc_one w2 42 _ x ((k1.rd32 HX.out).fresh b2)
  change Calls _ _ _ (((w.alloc (.cells (bvs x).toArray 24)).alloc (.cells (bvs (List.replicate 32 0)).toArray 24)).alloc (.cells #[.slice (some ⟨w.heap.size, 0, none⟩) 32 32] 42)) _
  rw [← h1, ← h2, ← h3]
  rw [s1] at s2 k2
  rw [s2] at p3
  refine (CT.out _ _ p3).mono ?_
  rintro e w4 ⟨rfl, b4⟩
  have B4 : Hid (Below w.heap.size w w4) := ((b1.tr b2).tr b3).tr b4
  have K4 := Lib.hid ((k2.fresh b3).fresh b4)
  clear p3 b4 k1 k2 b1 b2 b3 s1 s2 s3 h1 h2 h3
  go_wp2_with (with_reducible refine stopStore 24 ?_)
  refine Stop.go ?_
  refine wpList_store_var rfl 24 (.tmp 2) (.tmp 5) rfl (w.heap.size + 1) _ rfl _ (bvs Z) rfl K4.out (by simp [hZl.out]) (bvs_one _) (by rw [bvs_length, hZl.out]; exact infoHash) ?_
  intro wf kf of
  have BF : Hid (Below w.heap.size w wf) := Below.only B4.out of (by omega)
  have KF := Lib.hid kf
  clear kf of
  go_wp2
  exact bodyPost_ret (results_cell1 rfl _ _ (w.heap.size + 1) _ _ _ _ rfl KF.out Try.underlying24 rfl (by simp [hZl.out, infoHash])) rfl ⟨rfl, BF.out⟩

set_option maxRecDepth 100000 in
set_option maxHeartbeats 300000 in
theorem knot_any (w : World) (x y : Bs) (hx : x.length = 32) (hy : y.length = 32) :
    Calls Try.prog 111 #[.agg (bvs x).toArray, .agg (bvs y).toArray] w fun e w' => e = .returned (.agg (bvs (knotB x y)).toArray) ∧ Below w.heap.size w w' := by
  obtain ⟨Z, hZ⟩ : ∃ Z, Z = knotB x y := ⟨_, rfl⟩
  have hZl : Hid (Z.length = 32) := Lib.hid (by rw [hZ]; exact knotB_length _ _)
  have CT := fun w0 v0 h0 => tag_any w0 v0 [107, 110, 111, 116] [x, y] h0 (by simp) (by simp; omega) (by simp)
  rw [show shaB (textB [107, 110, 111, 116] ([x, y] : List Bs).flatten) = Z by rw [hZ]; simp [knotB]] at CT
  rw [← hZ]
  replace CT := Lib.hid CT
  have HX := Lib.hid hx
  have HY := Lib.hid hy
  clear hx hy hZ
  go_enter Try.func111, Try.ntmps111
  go_wp2_with fail
  obtain ⟨w1, h1, k1, b1, s1⟩ := alloc_cb w 24 (bvs x)
  obtain ⟨w2, h2, k2, b2, s2⟩ := alloc_cb w1 24 (bvs y)
  obtain ⟨w3, h3, k3, b3, s3⟩ := alloc_cb w2 24 (bvs (List.replicate 32 0))
  change Code.wp _ _ _ _ (((w.alloc (.cells (bvs x).toArray 24)).alloc (.cells (bvs y).toArray 24)).alloc (.cells (bvs (List.replicate 32 0)).toArray 24))
  rw [← h1, ← h2, ← h3]
  obtain ⟨w4, h4, p4, b4, s4⟩ := alloc_two w3.drew 42 (.slice (some ⟨w.heap.size, 0, none⟩) 32 32) (.slice (some ⟨w.heap.size + 1, 0, none⟩) 32 32) x y (((k1.rd32 HX.out).fresh b2).fresh b3.drew) (by have := (k2.rd32 HY.out).fresh b3.drew; rw [s1] at this; exact this)
  have b34 : Below w3.heap.size w3 w4 := (Below.refl _ w3).drew.trans b4
  have k4 := k3.fresh b34
  have B4 := ((b1.tr b2).tr b3).tr b34
  have z3 : w3.heap.size = w.heap.size + 1 + 1 + 1 := by rw [s3, s2, s1]
  have z2 : w2.heap.size = w.heap.size + 1 + 1 := by rw [s2, s1]
  rw [show w3.drew.heap.size = w3.heap.size from rfl] at p4
  rw [z2] at k4
  replace B4 := Lib.hid B4
  have K4 := Lib.hid k4
  have P4 := Lib.hid p4
  have H4 := Lib.hid h4
  have Z3 := Lib.hid z3
  clear p4 b4 b34 s4 k4 k1 k2 k3 b1 b2 b3 s1 s2 s3 h1 h2 h3 h4 z2 z3
  refine pl_start 5 rfl (fun _ => True) (by kernel_rfl) ?_
  refine pl_take (i := 0) 5 rfl rfl rfl (by kernel_rfl) (by kernel_rfl) (by kernel_rfl) (by simp [Act.put]) trivial ?_
  apply Exists.intro
  refine And.intro (fun w' hS' => ?_) ?_
  · go_wp2
    exact ⟨trivial, rfl⟩
  refine pl_take (i := 1) 6 rfl rfl rfl (by kernel_rfl) (by kernel_rfl) (by kernel_rfl) (by simp [Act.put]) trivial ?_
  apply Exists.intro
  refine And.intro (fun w' hS' => ?_) ?_
  · go_wp2
    exact ⟨trivial, rfl⟩
  refine pl_heavy (i := 2) rfl (by kernel_rfl) ?_
  go_wp2
  refine And.intro trivial ?_
  change wpAnyH _ _ _ _ _ _ _ _ (w3.drew.alloc (.cells #[.slice (some ⟨w.heap.size, 0, none⟩) 32 32, .slice (some ⟨w.heap.size + 1, 0, none⟩) 32 32] 42))
  rw [← H4.out]
  refine pl_heavy (i := 3) rfl (by kernel_rfl) ?_
  go_wp2_with fail
  refine (CT.out _ _ P4.out).mono ?_
  rintro e w5 ⟨rfl, b5⟩
  have B5 : Hid (Below w.heap.size w w5) := B4.out.tr b5
  have K5 := Lib.hid (K4.out.fresh b5)
  clear b5 P4 H4 B4 K4
  go_wp2
  refine And.intro trivial ?_
  refine pl_heavy (i := 4) rfl (by kernel_rfl) ?_
  refine wpList_store_var rfl 24 (.tmp 4) (.tmp 8) rfl (w.heap.size + 1 + 1) _ rfl _ (bvs Z) rfl K5.out (by simp [hZl.out]) (bvs_one _) (by rw [bvs_length, hZl.out]; exact infoHash) ?_
  intro wf kf of
  have BF : Hid (Below w.heap.size w wf) := Below.only B5.out of (by omega)
  have KF := Lib.hid kf
  clear kf
  go_wp2
  refine And.intro trivial ?_
  refine pl_done (by kernel_rfl) ?_
  go_wp2
  exact bodyPost_ret (results_cell1 rfl _ _ (w.heap.size + 1 + 1) _ _ _ _ rfl KF.out Try.underlying24 rfl (by simp [hZl.out, infoHash])) rfl ⟨rfl, BF.out⟩

set_option maxRecDepth 100000 in
set_option maxHeartbeats 400000 in
theorem mnumber_any (w : World) (m : Nat) (hm : m ≤ 1099511627776) :
    Calls Try.prog 142 #[.int .i64 (m : Int)] w fun e w' =>
      e = .returned (.slice (some ⟨w.heap.size, 0, none⟩) 8 8) ∧ BB w' 5 w.heap.size (le m 8) ∧ Below w.heap.size w w' := by
  obtain ⟨i0, hi, hz0, hz1, hz2⟩ := info_parts infoU8
  have h0 : (0 : Int) ≤ (m : Int) := by omega
  have HM := Lib.hid hm
  clear hm
  go_enter Try.func142, Try.ntmps142
  go_wp2_with (at_make; apply Stop.mk)
  refine Stop.go ?_
  refine wpList_make_full _ rfl _ _ 42 rfl w.heap.size 5 i0 (.int .u8 0) 1 Try.underlying42 hi hz0 hz1 _ _ _ _ 8 rfl rfl rfl rfl (by rw [hz2]; omega) (by unfold maxLen; omega) (Nat.le_refl _) ?_
  intro w1 hown hgr
  have hb1 : BB w1 5 w.heap.size (le m 0 ++ List.replicate (8 - 0) 0) := by
    refine BB.full (base := w.heap.size) (n := 8) ?_
    simpa [le, bvs, bv, Value.cells, toList_madeCells_one] using hown
  have Hb1 := Lib.hid hb1; clear hb1
  have Hbl : Hid (Below w.heap.size w w1) := Below.grown (Below.refl _ w) hgr (Nat.le_refl _) (by simp)
  clear hgr hown
  go_wp2
  go_loopw [8] (fun v wr => ∃ k : Nat, k ≤ 8 ∧ v = .int .i64 (k : Int) ∧ BB wr 5 w.heap.size (le m k ++ List.replicate (8 - k) 0) ∧ Below w.heap.size w wr)
    (fun v _ => 8 - (intOf v).toNat)
  case atStart => exact ⟨0, Nat.zero_le _, rfl, Hb1.out, Hbl.out⟩
  case round =>
    obtain ⟨k, hk, rfl, hb, hbl⟩ := hrel
    have hc : k < 8 → wr.cell? ⟨w.heap.size, k, none⟩ = some (.int .u8 0) := fun h => by
      have := hb.cell k 0 (by rw [List.getElem?_append_right (by simp [le_length]), le_length, Nat.sub_self, List.getElem?_replicate, if_pos (by omega)])
      simpa [bv] using this
    have hf : wr.frozen? ⟨w.heap.size, k, none⟩ = false := hb.free k
    have Hb := Lib.hid hb; clear hb
    have Hbl2 := Lib.hid hbl; clear hbl
    by_cases h8 : k < 8
    · have i8 : (k : Int) < 8 := by omega
      have hc' := hc h8
      have HC := Lib.hid h8
      clear hc h8
      go_wp2
      go_roundw
      case rel =>
        refine ⟨k + 1, by omega, by go_num, ?_, ?_⟩
        · rw [← le_step m k 8 (by assumption)]
          have := Hb.out.set k (UInt8.ofNat (m / 2 ^ (8 * k)))
          rw [bv_ofNat] at this
          simpa using this
        · exact Hbl2.out.setCell (p := ⟨w.heap.size, k, none⟩) (Nat.le_refl _) _
      case measure => simp [intOf]; omega
    · have hks : k = 8 := by omega
      subst hks
      go_wp2
      go_ret
      exact ⟨rfl, by simpa using Hb.out, Hbl2.out⟩

set_option maxRecDepth 100000 in
set_option maxHeartbeats 400000 in
theorem top_any (w : World) (n : Nat) (v : Value) (m : Bs) (hn : n ≤ 1099511627776) (hv : Rd w 1 v m.length (bvs m)) (hm : m.length ≤ 1000000) :
    Calls Try.prog 107 #[.int .i64 (n : Int), v] w fun e w' => e = .returned (.agg (bvs (topB n m)).toArray) ∧ Below w.heap.size w w' := by
  obtain ⟨a0, c0, rfl⟩ := hv.slice
  obtain ⟨Z, hZ⟩ : ∃ Z, Z = topB n m := ⟨_, rfl⟩
  have hZl : Hid (Z.length = 32) := Lib.hid (by rw [hZ]; exact topB_length _ _)
  obtain ⟨N, hN⟩ : ∃ N, N = le n 8 := ⟨_, rfl⟩
  have hNl : N.length = 8 := by rw [hN]; simp
  have CT := fun w0 v0 h0 => tag_any w0 v0 [114, 111, 111, 116] [N, m] h0 (by simp) (by simp; omega) (by simp)
  rw [show shaB (textB [114, 111, 111, 116] ([N, m] : List Bs).flatten) = Z by rw [hZ, hN]; simp [topB]] at CT
  have CN := fun w0 => mnumber_any w0 n hn
  rw [← hN] at CN
  rw [← hZ]
  obtain ⟨k, hk⟩ : ∃ k, k = m.length := ⟨_, rfl⟩
  rw [← hk] at hv ⊢
  replace CT := Lib.hid CT
  replace CN := Lib.hid CN
  have HV := Lib.hid hv
  have HN := Lib.hid hNl
  have HK := Lib.hid hk
  clear hn hv hm hZ hN hNl hk
  go_enter Try.func107, Try.ntmps107
  go_wp2_with fail
  obtain ⟨w1, h1, k1, b1, s1⟩ := alloc_cb w 24 (bvs (List.replicate 32 0))
  change Calls _ _ _ (w.alloc (.cells (bvs (List.replicate 32 0)).toArray 24)) _
  rw [← h1]
  refine (CN.out w1).mono ?_
  rintro e w2 ⟨rfl, r2, b2⟩
  have r2' : Rd w2 1 (.slice (some ⟨w1.heap.size, 0, none⟩) 8 8) 8 (bvs N) := by have := BB.rd r2 0 8 8 (by rw [HN.out]; omega) (by omega) (by decide); simpa [HN.out, List.take_of_length_le (show N.length ≤ 8 by rw [HN.out]; decide)] using this
  obtain ⟨w3, h3, p3, b3, s3⟩ := alloc_two w2 42 _ _ N m (by rw [HN.out]; exact r2') (by rw [← HK.out]; exact (HV.out.fresh b1).fresh b2)
  have B3 : Hid (Below w.heap.size w w3) := (b1.tr b2).tr b3
  have K3 := Lib.hid ((k1.fresh b2).fresh b3)
  have P3 := Lib.hid p3
  have H3 := Lib.hid h3
  clear p3 h3 b1 b2 b3 r2 r2' k1 s1 s3 h1
  go_wp2_with fail
  change Calls _ _ _ (w2.alloc (.cells #[.slice (some ⟨w1.heap.size, 0, none⟩) 8 8, .slice a0 k c0] 42)) _
  rw [← H3.out]
  refine (CT.out _ _ P3.out).mono ?_
  rintro e w4 ⟨rfl, b4⟩
  have B4 : Hid (Below w.heap.size w w4) := B3.out.tr b4
  have K4 := Lib.hid (K3.out.fresh b4)
  clear b4 H3 P3 B3 K3
  go_wp2_with (with_reducible refine stopStore 24 ?_)
  refine Stop.go ?_
  refine wpList_store_var rfl 24 (.tmp 4) (.tmp 9) rfl (w.heap.size) _ rfl _ (bvs Z) rfl K4.out (by simp [hZl.out]) (bvs_one _) (by rw [bvs_length, hZl.out]; exact infoHash) ?_
  intro wf kf of
  have BF : Hid (Below w.heap.size w wf) := Below.only B4.out of (by omega)
  have KF := Lib.hid kf
  clear kf of
  go_wp2
  exact bodyPost_ret (results_cell1 rfl _ _ (w.heap.size) _ _ _ _ rfl KF.out Try.underlying24 rfl (by simp [hZl.out, infoHash])) rfl ⟨rfl, BF.out⟩

end Go.Proofs.Ytbabjepblakboaa

/- Merkle: lists of hashes: words; leaves, rows above. -/
namespace Go.Proofs.Ytbabjepblakboaa
set_option linter.unusedVariables false
set_option linter.unusedSimpArgs false
open Go.RowKit Go.Lib

/-- Hashes all. -/
def H32 (l : List Bs) : Prop := ∀ x ∈ l, x.length = 32

theorem H32.flat {l : List Bs} (h : H32 l) : l.flatten.length = l.length * 32 := by
  induction l with
  | nil => rfl
  | cons x l ih =>
    rw [List.flatten_cons, List.length_append, h x (by simp), ih (fun y hy => h y (by simp [hy])), List.length_cons]
    omega

theorem H32.take {l : List Bs} (h : H32 l) (n : Nat) : H32 (l.take n) := fun x hx => h x (List.mem_of_mem_take hx)
theorem H32.drop {l : List Bs} (h : H32 l) (n : Nat) : H32 (l.drop n) := fun x hx => h x (List.mem_of_mem_drop hx)
theorem H32.append {l m : List Bs} (h : H32 l) (g : H32 m) : H32 (l ++ m) := fun x hx => (List.mem_append.1 hx).elim (h x) (g x)
theorem H32.get {l : List Bs} (h : H32 l) {i : Nat} {x : Bs} (hi : l[i]? = some x) : x.length = 32 := h x (List.mem_of_getElem? hi)

theorem H32.cells {l : List Bs} (h : H32 l) {i : Nat} {x : Bs} (hi : l[i]? = some x) (j : Nat) (u : Value) (hj : (bvs x)[j]? = some u) : (bvs l.flatten)[i * 32 + j]? = some u := by
  induction l generalizing i with
  | nil => simp at hi
  | cons y l ih =>
    have hy := h y (by simp)
    rw [List.flatten_cons, bvs_append]
    rcases i with _ | i
    · simp at hi; subst hi
      rw [Nat.zero_mul, Nat.zero_add, List.getElem?_append_left]
      · exact hj
      · exact (List.getElem?_eq_some_iff.1 hj).1
    · rw [List.getElem?_cons_succ] at hi
      rw [List.getElem?_append_right (by rw [bvs_length, hy]; omega), bvs_length, hy]
      have := ih (fun z hz => h z (by simp [hz])) hi
      rw [← this]
      congr 1
      omega

theorem H32.take_flat {l : List Bs} (h : H32 l) (n : Nat) : (l.take n).flatten = l.flatten.take (n * 32) := by
  induction l generalizing n with
  | nil => simp
  | cons y l ih =>
    have hy := h y (by simp)
    rcases n with _ | n
    · simp
    · rw [List.take_succ_cons, List.flatten_cons, List.flatten_cons, ih (fun z hz => h z (by simp [hz])) n, List.take_append, hy, List.take_of_length_le (l := y) (by omega), show (n + 1) * 32 - 32 = n * 32 by omega]

theorem H32.drop_flat {l : List Bs} (h : H32 l) (n : Nat) : (l.drop n).flatten = l.flatten.drop (n * 32) := by
  induction l generalizing n with
  | nil => simp
  | cons y l ih =>
    have hy := h y (by simp)
    rcases n with _ | n
    · simp
    · rw [List.drop_succ_cons, List.flatten_cons, ih (fun z hz => h z (by simp [hz])) n, List.drop_append, hy, List.drop_of_length_le (l := y) (by omega), List.nil_append, show (n + 1) * 32 - 32 = n * 32 by omega]

/-- A slice that reads hashes. -/
def Hs (w : World) (v : Value) (l : List Bs) : Prop := H32 l ∧ Rd w 32 v l.length (bvs l.flatten)
/-- A slice of hashes of one's own. -/
def Ho (w : World) (base : Nat) (v : Value) (l : List Bs) : Prop := H32 l ∧ w.ownsRow base 24 32 v l.length (bvs l.flatten)

theorem Ho.hs {w : World} {base : Nat} {v : Value} {l : List Bs} (h : Ho w base v l) : Hs w v l := ⟨h.1, Rd.of_own h.2⟩
theorem Hs.fresh {w w' : World} {v : Value} {l : List Bs} (h : Hs w v l) (hb : Below w.heap.size w w') : Hs w' v l := ⟨h.1, h.2.fresh hb⟩
theorem Ho.fresh {w w' : World} {base : Nat} {v : Value} {l : List Bs} (h : Ho w base v l) (hb : Below w.heap.size w w') : Ho w' base v l := ⟨h.1, own_fresh h.2 hb⟩
theorem Hs.slice {w : World} {v : Value} {l : List Bs} (h : Hs w v l) : ∃ a c, v = .slice a l.length c := h.2.slice
theorem Ho.slice {w : World} {base : Nat} {v : Value} {l : List Bs} (h : Ho w base v l) : ∃ a c, v = .slice a l.length c := h.hs.slice
theorem Ho.slice' {w : World} {base : Nat} {v : Value} {l : List Bs} (h : Ho w base v l) {n : Nat} (hn : l.length = n) : ∃ a c, v = .slice a n c := by subst hn; exact h.slice
theorem Hs.slice' {w : World} {v : Value} {l : List Bs} (h : Hs w v l) {n : Nat} (hn : l.length = n) : ∃ a c, v = .slice a n c := by subst hn; exact h.slice
theorem Hs.nil (w : World) : Hs w (.slice none 0 0) [] := ⟨fun x hx => by simp at hx, Rd.nil w 32⟩
theorem Ho.nil (w : World) (base : Nat) : Ho w base (.slice none 0 0) [] := ⟨fun x hx => by simp at hx, World.ownsRow_nil _ _ _ _⟩

/-- An element at its place. -/
theorem Hs.elem {w : World} {v : Value} {l : List Bs} (h : Hs w v l) {i : Nat} {x : Bs} (hi : l[i]? = some x) :
    ∃ ad c, v = .slice (some ad) l.length c ∧ ∀ j u, (bvs x)[j]? = some u → w.cell? ((ad.add (i * 32)).add j) = some u := by
  rcases h.2.2 with ⟨rfl, h0⟩ | ⟨ad, c, rfl, _, _, hcell⟩
  · rw [List.eq_nil_of_length_eq_zero h0] at hi; simp at hi
  · refine ⟨ad, c, rfl, fun j u hj => ?_⟩
    rw [add_add_addr]
    exact hcell _ _ (h.1.cells hi j u hj)

theorem Hs.elem' {w : World} {ad : Addr} {n c : Nat} {l : List Bs} (h : Hs w (.slice (some ad) n c) l) {i : Nat} {x : Bs} (hi : l[i]? = some x) :
    ∀ j u, (bvs x)[j]? = some u → w.cell? ((ad.add (i * 32)).add j) = some u := by
  obtain ⟨ad', c', he, hc⟩ := h.elem hi
  simp only [Value.slice.injEq, Option.some.injEq] at he
  obtain ⟨rfl, _, _⟩ := he
  exact hc

theorem Hs.isSome {w : World} {v : Value} {l : List Bs} (h : Hs w v l) {n : Nat} (hn : l.length = n) (h0 : 0 < n) : ∃ ad c, v = .slice (some ad) n c := by
  subst hn
  obtain ⟨ad, c, he, _⟩ := h.elem (List.getElem?_eq_getElem h0)
  exact ⟨ad, c, he⟩

theorem infoHash3 : (Try.prog.info? 24).map (fun i => (i.zero, i.size, i.bytes)) = some (some (.agg (bvs (List.replicate 32 0)).toArray), 32, 32) := by kernel_rfl

theorem bvs_flat1 (x : Bs) : bvs ([x] : List Bs).flatten = bvs x := by simp

theorem alloc_hash (w : World) (x : Bs) (hx : x.length = 32) :
    ∃ w', w' = w.alloc (.cells (bvs x).toArray 24) ∧ Hs w' (.slice (some ⟨w.heap.size, 0, none⟩) 1 1) [x] ∧ Below w.heap.size w w' ∧ w'.heap.size = w.heap.size + 1 := by
  refine ⟨_, rfl, ⟨fun y hy => by simp at hy; rw [hy]; exact hx, by simp [hx], .inr ⟨_, _, rfl, by simp, by simp [maxLen], fun j u hj => ?_⟩⟩, (Below.refl _ w).alloc (Nat.le_refl _) _, Array.size_push _⟩
  rw [add_at, Nat.zero_add]
  rw [bvs_flat1] at hj
  exact (CB.new w 24 (bvs x)).cell j u hj

theorem hashes_flat (l : List Bs) : (l.map fun x => Value.agg (bvs x).toArray).flatMap (fun v => v.cells.toList) = bvs l.flatten := by
  induction l with
  | nil => rfl
  | cons x l ih => rw [List.map_cons, List.flatMap_cons, ih, List.flatten_cons, bvs_append]; rfl

/-- A slice literal of hashes. -/
theorem wpList_buildH {ops : Array Oper} {rest : List Oper} {o : Oper} {a : Act} {w : World} {Q : Exit → Act → World → Prop} (hgd : o.guard = none) (len : Nat) (parts : Array (Nat × Operand)) (ho : o.op = .buildSlice 22 len parts)
    (l : List Bs) (hl : H32 l) (hlen : l.length = len) (hpos : 0 < len) (hsm : len ≤ 500000)
    (hp : (parts.map fun (i, x) => (i, a.eval x)).toList = ((l.map fun x => Value.agg (bvs x).toArray).zipIdx 0).map fun x => (x.2, x.1))
    (h : ∀ w', Hs w' (.slice (some ⟨w.heap.size, 0, none⟩) len len) l → Below w.heap.size w w' → w'.heap.size = w.heap.size + 1 → wpList Try.prog ops Q rest (a.put o.dst (.slice (some ⟨w.heap.size, 0, none⟩) len len)) w') : wpList Try.prog ops Q (o :: rest) a w := by
  obtain ⟨i0, hi, hz0, hz1, hz2⟩ := info_parts infoHash3
  have hfl := hashes_flat l
  refine wpList_buildSlice hgd 22 24 len parts ho (bvs l.flatten).toArray i0 _ Try.underlying22 hi hz0 (by rw [hz1]; omega) (by rw [hz1]; omega) ?_ ?_
  · rw [hp, hz1, Great.fill_whole (by decide) _ _ ?_ ?_, hfl]
    · intro v hv
      obtain ⟨x, hx, rfl⟩ := List.mem_map.1 hv
      simp [Value.cells, hl x hx]
    · simp [hlen]
  · refine h _ ⟨hl, by rw [bvs_length, hl.flat], .inr ⟨_, _, by rw [hlen], by omega, by unfold maxLen; omega, fun j u hj => ?_⟩⟩ ((Below.refl _ w).alloc (Nat.le_refl _) _) (Array.size_push _)
    rw [add_at, Nat.zero_add]
    exact (CB.new w 24 (bvs l.flatten)).cell j u hj

theorem H32.one {x : Bs} (h : x.length = 32) : H32 [x] := fun y hy => by simp at hy; rw [hy]; exact h

set_option maxRecDepth 100000 in
set_option maxHeartbeats 400000 in
theorem leaves_any (w : World) (v : Value) (l : List Bs) (h : Hs w v l) (hl : l.length ≤ 1048576) :
    Calls Try.prog 105 #[v] w fun e w' => ∃ v', e = .returned v' ∧ Ho w' w.heap.size v' (l.map leafB) ∧ Below w.heap.size w w' := by
  obtain ⟨i0, hi, hz0, hz1, hz2⟩ := info_parts infoHash3
  obtain ⟨a0, c0, rfl⟩ := h.slice
  obtain ⟨N, hN⟩ : ∃ N, N = l.length := ⟨_, rfl⟩
  have H := Lib.hid h; clear h
  have HL := Lib.hid hl; clear hl
  rw [← hN] at H HL ⊢
  have HN := Lib.hid hN; clear hN
  go_enter Try.func105, Try.ntmps105
  go_wp2
  go_loopw [3, 8] (fun v3 v8 wr => ∃ k : Nat, k ≤ N ∧ v8 = .int .i64 (k : Int) ∧ Ho wr w.heap.size v3 ((l.take k).map leafB) ∧ Below w.heap.size w wr)
    (fun _ v _ => N - (intOf v).toNat)
  case atStart => exact ⟨0, Nat.zero_le _, rfl, Ho.nil _ _, Below.refl _ _⟩
  case round =>
    obtain ⟨k, hk, rfl, ho, hb⟩ := hrel
    obtain ⟨a3, c3, rfl⟩ := ho.slice' (n := k) (by rw [List.length_map, List.length_take]; have := HN.out; omega)
    have Ho' := Lib.hid ho; clear ho
    have Hb := Lib.hid hb; clear hb
    by_cases hlt : k < N
    · obtain ⟨x, hx⟩ : ∃ x, l[k]? = some x := ⟨_, List.getElem?_eq_getElem (by rw [← HN.out]; exact hlt)⟩
      have H1 := H.out
      rw [HN.out] at H1
      obtain ⟨ad, c, he, hcell⟩ := (H1.fresh Hb.out).elem hx
      simp only [Value.slice.injEq, true_and] at he
      obtain ⟨rfl, rfl⟩ := he
      have HC := Lib.hid hcell
      have HX := Lib.hid hx
      have ik : (k : Int) < (N : Int) := by omega
      have iN : (N : Int) ≤ 1048576 := by have := HL.out; omega
      clear H1 hcell hx hlt
      go_wp2_with (with_reducible refine stopAt 11 ?_)
      refine Stop.go ?_
      refine wpList_load_agg rfl 24 (.tmp 10) rfl (ad.add (k * 32)) rfl (bvs x) _ (HC.out) Try.underlying24 rfl (by rw [bvs_length, (H.out.1.get HX.out)]; exact infoHash) ?_
      go_wp2_with (with_reducible refine stopStore 24 ?_)
      refine Stop.go ?_
      refine wpList_store_var rfl 24 (.tmp 5) (.tmp 11) rfl wr.heap.size _ rfl _ (bvs x) rfl (heap_alloc_new wr _) (by simp [H.out.1.get HX.out]) (bvs_one _) (by rw [bvs_length, H.out.1.get HX.out]; exact infoHash) ?_
      intro w1 kw1 ow1
      have bw1 : Below wr.heap.size wr w1 := Below.only ((Below.refl _ wr).alloc (Nat.le_refl _) _) ow1 (Nat.le_refl _)
      replace kw1 : CB w1 24 wr.heap.size (bvs x) := kw1
      clear ow1
      replace kw1 := Lib.hid kw1
      replace bw1 := Lib.hid bw1
      go_wp2_with (with_reducible refine stopAt 13 ?_)
      refine Stop.go ?_
      refine wpList_load_agg rfl 24 (.tmp 5) rfl (⟨wr.heap.size, 0, none⟩) rfl (bvs x) _ ((At.block kw1.out).load) Try.underlying24 rfl (by rw [bvs_length, H.out.1.get HX.out]; exact infoHash) ?_
      go_wp2_with fail
      refine (leaf_any w1 x (H.out.1.get HX.out)).mono ?_
      rintro e w2 ⟨rfl, b2⟩
      have B2 := Lib.hid (bw1.out.tr b2)
      clear b2 kw1 bw1
      go_wp2_with (with_reducible refine stopAt 15 ?_)
      refine Stop.go ?_
      refine wpList_buildH rfl 1 _ rfl ([leafB x]) (H32.one (leafB_length x)) rfl (by decide) (by decide) (by kernel_rfl) ?_
      intro w3 pw3 bw3 sw3
      have p3 := pw3
      have b3 := bw3
      clear pw3 bw3 sw3
      go_wp2_with (at_builtin; apply Stop.mk)
      refine Stop.go ?_
      have B3 := B2.out.tr b3
      refine wpList_append_rd _ rfl (.tmp 12) (.tmp 15) 22 rfl w.heap.size 24 i0 _ 32 32 Try.underlying22 hi hz0 hz1 hz2 (by simp [Value.cells]) (by decide) (.slice a3 k c3) k (bvs ((l.take k).map leafB).flatten) rfl (by have := (Ho'.out.fresh B3).2; rwa [List.length_map, List.length_take, show min k l.length = k by have := HN.out; omega] at this) _ 1 _ rfl p3.2 (bvs_one _) (by unfold maxLen; have := HL.out; omega) (by have := HL.out; omega) (by have := Hb.out.size; have := B3.size; omega) ?_
      intro v4 w4 hown4 hgr4 _ _
      have B4 : Hid (Below w.heap.size w w4) := (Hb.out.tr B3).grown hgr4 (by have := Hb.out.size; have := B3.size; omega) (fun j hj => (Ho'.out.2.lt j hj).1)
      have O4 : Hid (Ho w4 w.heap.size v4 ((l.take (k + 1)).map leafB)) := by
        have e1 : (l.take (k + 1)).map leafB = (l.take k).map leafB ++ [leafB x] := by rw [List.take_add_one, HX.out]; simp
        rw [e1]
        refine ⟨Ho'.out.1.append p3.1, ?_⟩
        rw [List.flatten_append, bvs_append, List.length_append, List.length_map, List.length_take, show min k l.length = k by have := HN.out; omega]
        exact hown4
      clear hown4 hgr4 B3 p3 b3 B2
      go_wp2
      go_roundw
      case rel => exact ⟨k + 1, by omega, by go_num, O4.out, B4.out⟩
      case measure => simp [intOf]; omega
    · have hkN : k = N := by omega
      subst hkN
      have O4 : Hid (Ho wr w.heap.size (.slice a3 k c3) (l.map leafB)) := by
        have := Ho'.out
        rwa [List.take_of_length_le (by have := HN.out; omega)] at this
      go_wp2
      go_ret
      exact ⟨_, rfl, O4.out, Hb.out⟩

theorem up_two {α : Type} (K : α → α → α) (l : List α) (k : Nat) (x y : α) (hx : l[2 * k]? = some x) (hy : l[2 * k + 1]? = some y) : (up K l)[k]? = some (K x y) := by
  induction l using up.induct generalizing k with
  | case1 a b l ih =>
    rcases k with _ | k
    · simp at hx hy; subst hx hy; rfl
    · rw [up, List.getElem?_cons_succ]
      exact ih k (by rw [show 2 * (k + 1) = 2 * k + 1 + 1 by omega] at hx; simpa using hx) (by rw [show 2 * (k + 1) + 1 = 2 * k + 1 + 1 + 1 by omega] at hy; simpa using hy)
  | case2 a => simp at hy
  | case3 => simp at hx

theorem up_last {α : Type} (K : α → α → α) (l : List α) (k : Nat) (x : α) (hx : l[2 * k]? = some x) (hy : l.length = 2 * k + 1) : (up K l)[k]? = some x := by
  induction l using up.induct generalizing k with
  | case1 a b l ih =>
    rcases k with _ | k
    · simp at hy
    · rw [up, List.getElem?_cons_succ]
      exact ih k (by rw [show 2 * (k + 1) = 2 * k + 1 + 1 by omega] at hx; simpa using hx) (by simp at hy; omega)
  | case2 a =>
    have : k = 0 := by simp at hy; omega
    subst this
    simpa [up] using hx
  | case3 => simp at hx

theorem up_h32 {l : List Bs} (h : H32 l) : H32 (up knotB l) := by
  induction l using up.induct with
  | case1 a b l ih =>
    intro x hx
    rw [up, List.mem_cons] at hx
    rcases hx with rfl | hx
    · exact knotB_length _ _
    · exact ih (fun y hy => h y (by simp [hy])) x hx
  | case2 a => exact h
  | case3 => exact h

/-- One hash more behind an own row. -/
theorem Ho.grow {w w' : World} {base : Nat} {a : Option Addr} {k c : Nat} {v' : Value} {L : List Bs} {x : Bs} (hx : L[k]? = some x) (hL : H32 L) (h : Ho w base (.slice a k c) (L.take k))
    (hown : w'.ownsRow base 24 32 v' (k + 1) (bvs (L.take k).flatten ++ bvs ([x] : List Bs).flatten)) : Ho w' base v' (L.take (k + 1)) := by
  have hk : k < L.length := (List.getElem?_eq_some_iff.1 hx).1
  have e1 : L.take (k + 1) = L.take k ++ [x] := by rw [List.take_add_one, hx]; rfl
  refine ⟨hL.take _, ?_⟩
  rw [e1, List.flatten_append, bvs_append, List.length_append, List.length_take, show min k L.length = k by omega]
  exact hown

theorem Ho.row {w : World} {base : Nat} {a : Option Addr} {k c : Nat} {L : List Bs} {w' : World} (h : Ho w base (.slice a k c) (L.take k)) (hk : k ≤ L.length) (hb : Below w.heap.size w w') : w'.ownsRow base 24 32 (.slice a k c) k (bvs (L.take k).flatten) := by
  have := (h.fresh hb).2
  rwa [List.length_take, show min k L.length = k by omega] at this

set_option maxRecDepth 100000 in
set_option maxHeartbeats 1000000 in
theorem above_any (w : World) (v : Value) (l : List Bs) (h : Hs w v l) (hl : l.length ≤ 1048576) :
    Calls Try.prog 106 #[v] w fun e w' => ∃ v', e = .returned v' ∧ Ho w' w.heap.size v' (up knotB l) ∧ Below w.heap.size w w' := by
  obtain ⟨i0, hi, hz0, hz1, hz2⟩ := info_parts infoHash3
  obtain ⟨a0, c0, rfl⟩ := h.slice
  obtain ⟨N, hN⟩ : ∃ N, N = l.length := ⟨_, rfl⟩
  obtain ⟨L, hL⟩ : ∃ L, L = up knotB l := ⟨_, rfl⟩
  have hLl : L.length = (N + 1) / 2 := by rw [hL, up_length, hN]
  have hL32 : H32 L := by rw [hL]; exact up_h32 h.1
  have U2 := fun k x y => up_two knotB l k x y
  have U1 := fun k x => up_last knotB l k x
  rw [← hL] at U1 U2
  have H := Lib.hid h
  rw [← hN] at H hl U1 ⊢
  rw [← hL]
  have HN := Lib.hid hN
  replace U1 := Lib.hid U1
  replace U2 := Lib.hid U2
  replace hLl := Lib.hid hLl
  replace hL32 := Lib.hid hL32
  have iN : (N : Int) ≤ 1048576 := by omega
  clear h hN hl hL
  go_enter Try.func106, Try.ntmps106
  go_wp2
  go_loopw [3, 4] (fun v3 v4 wr => ∃ k K : Nat, K = 2 * k ∧ k ≤ (N + 1) / 2 ∧ v4 = .int .i64 (K : Int) ∧ Ho wr w.heap.size v3 (L.take k) ∧ Below w.heap.size w wr)
    (fun _ v _ => (N + 1) / 2 - (intOf v).toNat / 2)
  case atStart => exact ⟨0, 0, rfl, Nat.zero_le _, rfl, Ho.nil _ _, Below.refl _ _⟩
  case round =>
    obtain ⟨k, K, hK, hk, rfl, ho, hb⟩ := hrel
    obtain ⟨a3, c3, rfl⟩ := ho.slice' (n := k) (by rw [List.length_take, hLl.out]; omega)
    have Ho' := Lib.hid ho; clear ho
    have Hb := Lib.hid hb; clear hb
    by_cases hlt : K < N
    · obtain ⟨x, hx⟩ : ∃ x, l[K]? = some x := ⟨_, List.getElem?_eq_getElem (by rw [← HN.out]; exact hlt)⟩
      have HX := Lib.hid hx
      obtain ⟨ad, c, he⟩ := H.out.isSome HN.out.symm (by omega)
      simp only [Value.slice.injEq, true_and] at he
      obtain ⟨rfl, rfl⟩ := he
      have ik : (K : Int) < (N : Int) := by omega
      have HX32 := Lib.hid (H.out.1.get hx)
      clear hx
      by_cases hlt2 : K + 1 < N
      · obtain ⟨y, hy⟩ : ∃ y, l[K + 1]? = some y := ⟨_, List.getElem?_eq_getElem (by rw [← HN.out]; exact hlt2)⟩
        have HY := Lib.hid hy
        have HY32 := Lib.hid (H.out.1.get hy)
        have hU := Lib.hid (U2.out k x y (by rw [← hK]; exact HX.out) (by rw [← hK]; exact hy))
        have ik2 : (K : Int) + 1 < (N : Int) := by omega
        have hS : Hs wr.drew (.slice (some ad) N c0) l := H.out.fresh (Hb.out.drew)
        replace hS := Lib.hid hS
        have HK := Lib.hid hK
        clear hy hK
        go_wp2_with fail
        refine pl_start 14 rfl (fun w' => Hs w' (.slice (some ad) N c0) l) (by kernel_rfl) ?_
        refine pl_take (i := 0) 16 rfl rfl rfl (by kernel_rfl) (by kernel_rfl) (by kernel_rfl) (by simp [Act.put]) hS.out ?_
        apply Exists.intro
        refine And.intro (fun w' hS' => ?_) ?_
        · go_wp2
          exact ⟨trivial, rfl⟩
        refine pl_take (i := 1) 17 rfl rfl rfl (by kernel_rfl) (by kernel_rfl) (by kernel_rfl) (by simp [Act.put]) hS.out ?_
        apply Exists.intro
        refine And.intro (fun w' hS' => ?_) ?_
        · go_wp2
          exact ⟨trivial, rfl⟩
        refine pl_take (i := 2) 18 rfl rfl rfl (by kernel_rfl) (by kernel_rfl) (by kernel_rfl) (by simp [Act.put]) hS.out ?_
        apply Exists.intro
        refine And.intro (fun w' hS' => ?_) ?_
        · go_wp2
          exact ⟨trivial, rfl⟩
        refine pl_take (i := 3) 19 rfl rfl rfl (by kernel_rfl) (by kernel_rfl) (by kernel_rfl) (by simp [Act.put]) hS.out ?_
        apply Exists.intro
        refine And.intro (fun w' hS' => ?_) ?_
        · clear hS'
          go_wp2
          exact ⟨trivial, rfl⟩
        refine pl_take (i := 4) 20 rfl rfl rfl (by kernel_rfl) (by kernel_rfl) (by kernel_rfl) (by simp [Act.put]) hS.out ?_
        apply Exists.intro
        refine And.intro (fun w' hS' => ?_) ?_
        · refine wpList_load_agg rfl 24 (.tmp 19) rfl (ad.add (K * 32)) rfl (bvs x) _ (hS'.elem' HX.out) Try.underlying24 rfl (by rw [bvs_length, HX32.out]; exact infoHash) ?_
          go_wp2
          exact ⟨trivial, rfl⟩
        refine pl_take (i := 5) 21 rfl rfl rfl (by kernel_rfl) (by kernel_rfl) (by kernel_rfl) (by simp [Act.put]) hS.out ?_
        apply Exists.intro
        refine And.intro (fun w' hS' => ?_) ?_
        · go_wp2
          exact ⟨trivial, rfl⟩
        refine pl_take (i := 6) 22 rfl rfl rfl (by kernel_rfl) (by kernel_rfl) (by kernel_rfl) (by simp [Act.put]) hS.out ?_
        apply Exists.intro
        refine And.intro (fun w' hS' => ?_) ?_
        · go_wp2
          exact ⟨trivial, rfl⟩
        refine pl_take (i := 7) 23 rfl rfl rfl (by kernel_rfl) (by kernel_rfl) (by kernel_rfl) (by simp [Act.put]) hS.out ?_
        apply Exists.intro
        refine And.intro (fun w' hS' => ?_) ?_
        · go_wp2
          exact ⟨trivial, rfl⟩
        refine pl_take (i := 8) 24 rfl rfl rfl (by kernel_rfl) (by kernel_rfl) (by kernel_rfl) (by simp [Act.put]) hS.out ?_
        apply Exists.intro
        refine And.intro (fun w' hS' => ?_) ?_
        · go_wp2
          exact ⟨trivial, rfl⟩
        refine pl_take (i := 9) 25 rfl rfl rfl (by kernel_rfl) (by kernel_rfl) (by kernel_rfl) (by simp [Act.put]) hS.out ?_
        apply Exists.intro
        refine And.intro (fun w' hS' => ?_) ?_
        · refine wpList_load_agg rfl 24 (.tmp 24) rfl (ad.add ((K + 1) * 32)) rfl (bvs y) _ (hS'.elem' HY.out) Try.underlying24 rfl (by rw [bvs_length, HY32.out]; exact infoHash) ?_
          go_wp2
          exact ⟨trivial, rfl⟩
        refine pl_heavy (i := 10) rfl (by kernel_rfl) ?_
        go_wp2_with fail
        refine (knot_any _ x y HX32.out HY32.out).mono ?_
        rintro e w1 ⟨rfl, b1⟩
        have B1 : Hid (Below w.heap.size w w1) := Hb.out.drew.tr b1
        have S1 := Lib.hid (hS.out.fresh b1)
        have O1 := Lib.hid (Ho'.out.fresh ((Below.refl _ wr).drew.tr b1))
        clear b1 hS
        go_wp2
        refine And.intro S1.out ?_
        refine pl_heavy (i := 11) rfl (by kernel_rfl) ?_
        refine wpList_buildH rfl 1 _ rfl ([knotB x y]) (H32.one (knotB_length x y)) rfl (by decide) (by decide) (by kernel_rfl) ?_
        intro w2 p2 b2 s2
        have S2 := Lib.hid (S1.out.fresh b2)
        have B2 := Lib.hid (B1.out.tr b2)
        have O2 := Lib.hid (O1.out.row (by rw [hLl.out]; exact hk) b2)
        have P2 := Lib.hid p2
        clear p2 b2 s2 S1 B1
        go_wp2
        refine And.intro S2.out ?_
        refine pl_heavy (i := 12) rfl (by kernel_rfl) ?_
        refine wpList_append_rd _ rfl (.tmp 16) (.tmp 27) 22 rfl w.heap.size 24 i0 _ 32 32 Try.underlying22 hi hz0 hz1 hz2 (by simp [Value.cells]) (by decide) (.slice a3 k c3) k (bvs (L.take k).flatten) rfl O2.out _ 1 _ rfl P2.out.2 (bvs_one _) (by unfold maxLen; omega) (by omega) (by have := B2.out.size; omega) ?_
        intro v4 w4 hown4 hgr4 _ _
        have B4 : Hid (Below w.heap.size w w4) := B2.out.grown hgr4 (by have := B2.out.size; omega) (fun j hj => (Ho'.out.2.lt j hj).1)
        have O4 : Hid (Ho w4 w.heap.size v4 (L.take (k + 1))) := Ho.grow hU.out hL32.out Ho'.out hown4
        have S4 : Hid (Hs w4 (.slice (some ad) N c0) l) := H.out.fresh B4.out
        clear hown4 hgr4 P2 B2 O2 O1 S2
        go_wp2
        refine And.intro S4.out ?_
        refine pl_heavy (i := 13) rfl (by kernel_rfl) ?_
        go_wp2
        refine And.intro S4.out ?_
        refine pl_done (by kernel_rfl) ?_
        go_wp2
        go_roundw
        case rel => exact ⟨k + 1, K + 2, by have := HK.out; omega, by have := HK.out; omega, by go_num, O4.out, B4.out⟩
        case measure => simp [intOf]; omega
      · have hU := Lib.hid (U1.out k x (by rw [← hK]; exact HX.out) (by omega))
        have ik2 : ¬ ((K : Int) + 1 < (N : Int)) := by omega
        have hS : Hs wr (.slice (some ad) N c0) l := H.out.fresh Hb.out
        have hE := Lib.hid (hS.elem' HX.out)
        have HK := Lib.hid hK
        clear hS hK
        go_wp2_with (with_reducible refine stopAt 33 ?_)
        refine Stop.go ?_
        refine wpList_load_agg rfl 24 (.tmp 32) rfl (ad.add (K * 32)) rfl (bvs x) _ (hE.out) Try.underlying24 rfl (by rw [bvs_length, HX32.out]; exact infoHash) ?_
        go_wp2_with (with_reducible refine stopAt 34 ?_)
        refine Stop.go ?_
        refine wpList_buildH rfl 1 _ rfl ([x]) (H32.one HX32.out) rfl (by decide) (by decide) (by kernel_rfl) ?_
        intro w2 pw2 bw2 sw2
        have B2 := Lib.hid (Hb.out.tr bw2)
        have O2 := Lib.hid (Ho'.out.row (by rw [hLl.out]; exact hk) bw2)
        have P2 := Lib.hid pw2
        clear pw2 bw2 sw2
        go_wp2_with (at_builtin; apply Stop.mk)
        refine Stop.go ?_
        refine wpList_append_rd _ rfl (.tmp 29) (.tmp 34) 22 rfl w.heap.size 24 i0 _ 32 32 Try.underlying22 hi hz0 hz1 hz2 (by simp [Value.cells]) (by decide) (.slice a3 k c3) k (bvs (L.take k).flatten) rfl O2.out _ 1 _ rfl P2.out.2 (bvs_one _) (by unfold maxLen; omega) (by omega) (by have := B2.out.size; omega) ?_
        intro v4 w4 hown4 hgr4 _ _
        have B4 : Hid (Below w.heap.size w w4) := B2.out.grown hgr4 (by have := B2.out.size; omega) (fun j hj => (Ho'.out.2.lt j hj).1)
        have O4 : Hid (Ho w4 w.heap.size v4 (L.take (k + 1))) := Ho.grow hU.out hL32.out Ho'.out hown4
        clear hown4 hgr4 P2 B2 O2
        go_wp2
        go_roundw
        case rel => exact ⟨k + 1, K + 2, by have := HK.out; omega, by have := HK.out; omega, by go_num, O4.out, B4.out⟩
        case measure => simp [intOf]; omega
    · have hkk : k = (N + 1) / 2 := by omega
      have ik : ¬ ((K : Int) < (N : Int)) := by omega
      have O4 : Hid (Ho wr w.heap.size (.slice a3 k c3) L) := by
        have := Ho'.out
        rwa [List.take_of_length_le (by rw [hLl.out]; omega)] at this
      clear hkk
      go_wp2
      go_ret
      exact ⟨_, rfl, O4.out, Hb.out⟩

end Go.Proofs.Ytbabjepblakboaa

/- Merkle: root, size: the walks. -/
namespace Go.Proofs.Ytbabjepblakboaa
set_option linter.unusedVariables false
set_option linter.unusedSimpArgs false
open Go.RowKit Go.Lib

/-- Is there such a place? -/
def okPl (n c : Int) : Bool := decide (0 ≤ n) && decide (n < c) && decide (c ≤ 1048576)

theorem nat_xor_one (p : Nat) : p ^^^ 1 = bes p := by
  have h1 : (p ^^^ 1) / 2 = p / 2 := by rw [Nat.xor_div_two]; simp
  have h2 : (p ^^^ 1) % 2 = (p + 1) % 2 := by
    have h3 := Nat.xor_mod_two_pow (a := p) (b := 1) (n := 1)
    rw [show 2 ^ 1 = 2 from rfl] at h3
    rw [h3]
    rcases Nat.mod_two_eq_zero_or_one p with h | h
    · rw [h, Nat.add_mod, h]; rfl
    · rw [h, Nat.add_mod, h]; rfl
  unfold bes
  split <;> omega

theorem bits_xor1 (p : Nat) (hp : p < 4611686018427387904) : bits .xor .i64 (p : Int) 1 = ((bes p : Nat) : Int) := by
  have h1 : (BitVec.ofInt 64 (p : Int)).toNat = p := by
    rw [BitVec.ofInt_natCast, BitVec.toNat_ofNat]; exact Nat.mod_eq_of_lt (by omega)
  show IntKind.i64.wrap ((BitVec.ofInt 64 (p : Int) ^^^ BitVec.ofInt 64 (1 : Int)).toNat : Int) = _
  have hb : bes p < 4611686018427387905 := by unfold bes; split <;> omega
  rw [BitVec.toNat_xor, h1, show (BitVec.ofInt 64 (1 : Int)).toNat = 1 from rfl, nat_xor_one, IntKind.wrap_i64]
  omega

theorem bits_and1 (p : Nat) (hp : p < 4611686018427387904) : bits .and .i64 (p : Int) 1 = ((p % 2 : Nat) : Int) := by
  have h1 : (BitVec.ofInt 64 (p : Int)).toNat = p := by
    rw [BitVec.ofInt_natCast, BitVec.toNat_ofNat]; exact Nat.mod_eq_of_lt (by omega)
  show IntKind.i64.wrap ((BitVec.ofInt 64 (p : Int) &&& BitVec.ofInt 64 (1 : Int)).toNat : Int) = _
  rw [BitVec.toNat_and, h1, show (BitVec.ofInt 64 (1 : Int)).toNat = 1 from rfl, Nat.and_one_is_mod, IntKind.wrap_i64]
  omega

theorem tdiv2 (p : Nat) : (p : Int).tdiv 2 = ((p / 2 : Nat) : Int) := by rw [Int.tdiv_eq_ediv_of_nonneg (by omega)]; omega

theorem cnt_le (c t : Nat) (h : 1 ≤ c) : cnt c t ≤ c := by
  induction t with
  | zero => exact Nat.le_refl _
  | succ t ih => simp only [cnt]; omega

theorem accS_le (n c t : Nat) : accS n c t ≤ t := by
  induction t with
  | zero => exact Nat.le_refl _
  | succ t ih => simp only [accS]; split <;> omega

theorem div_step (n t : Nat) : n / 2 ^ (t + 1) = n / 2 ^ t / 2 := by rw [Nat.pow_succ, Nat.div_div_eq_div_mul]

theorem cnt_many (c t : Nat) (h : c ≤ 1048576) (h0 : 1 ≤ c) (h1 : 1 < cnt c t) : t < 20 := by
  rcases Nat.lt_or_ge t 20 with h2 | h2
  · exact h2
  · exfalso
    have h3 := cnt_mono c (2 ^ 20) 20 (by omega)
    rw [cnt_pow 20 20 (Nat.le_refl _)] at h3
    obtain ⟨e, rfl⟩ : ∃ e, t = 20 + e := ⟨t - 20, by omega⟩
    have : ∀ e, cnt c (20 + e) ≤ 1 := by
      intro e
      induction e with
      | zero => simpa using h3
      | succ e ih => show (cnt c (20 + e) + 1) / 2 ≤ 1; omega
    have := this e
    omega

set_option maxRecDepth 100000 in
set_option maxHeartbeats 1000000 in
theorem msize_ok (w : World) (n c : Nat) (hn : n < c) (hc : c ≤ 1048576) :
    Calls Try.prog 48 #[.int .i64 (n : Int), .int .i64 (c : Int)] w fun e w' => e = .returned (.tuple #[.int .i64 (sizeM 20 n c : Int), .int .i64 0]) ∧ w' = w := by
  have i1 : ¬ ((n : Int) < 0) := by omega
  have i2 : ¬ ((c : Int) ≤ (n : Int)) := by omega
  have i3 : ¬ ((1048576 : Int) < (c : Int)) := by omega
  have HN := Lib.hid hn
  have HC := Lib.hid hc
  clear hn hc
  go_enter Try.func48, Try.ntmps48
  go_wp2
  go_loopw [0, 1, 6] (fun v0 v1 v6 wr => wr = w ∧ ∃ t p q s : Nat, p = n / 2 ^ t ∧ q = cnt c t ∧ s = accS n c t ∧ v0 = .int .i64 (p : Int) ∧ v1 = .int .i64 (q : Int) ∧ v6 = .int .i64 (s : Int))
    (fun _ v _ _ => (intOf v).toNat)
  case atStart => exact ⟨rfl, 0, n, c, 0, by simp, rfl, rfl, rfl, rfl, rfl⟩
  case round =>
    obtain ⟨rfl, t, p, q, s, hp, hq, hs, rfl, rfl, rfl⟩ := hrel
    have hpq : p < q := by rw [hp, hq]; exact cnt_div n c t HN.out
    have hqc : q ≤ c := by rw [hq]; exact cnt_le c t (by have := HN.out; omega)
    have HP := Lib.hid hp
    have HQ := Lib.hid hq
    have HS := Lib.hid hs
    have HPQ := Lib.hid (And.intro hpq (Nat.le_trans hqc HC.out))
    by_cases h1 : 1 < q
    · have j1 : (1 : Int) < (q : Int) := by omega
      have ht : t < 20 := cnt_many c t HC.out (by have := HN.out; omega) (by rw [← hq]; exact h1)
      have hsl : s ≤ 20 := by have := accS_le n c t; omega
      have jx := bits_xor1 p (by have := HPQ.out; omega)
      obtain ⟨b, hb⟩ : ∃ b, b = bes p := ⟨_, rfl⟩
      rw [← hb] at jx
      have jp := tdiv2 p
      have jq : ((q : Int) + 1).tdiv 2 = (((q + 1) / 2 : Nat) : Int) := by have := tdiv2 (q + 1); rw [← this]; rfl
      have HB := Lib.hid hb
      have bp : (p : Int) ≤ 1048576 := by have := HPQ.out; omega
      have bq : (q : Int) ≤ 1048576 := by have := HPQ.out; omega
      have bs : (s : Int) ≤ 20 := by omega
      have HSL := Lib.hid hsl
      have H1 := Lib.hid h1
      clear hp hq hs hpq hqc hb ht hsl h1
      by_cases h2 : b < q
      · have j2 : (b : Int) < (q : Int) := by omega
        have H2 := Lib.hid h2
        clear h2
        go_wp2
        go_roundw
        case rel =>
          refine ⟨trivial, t + 1, p / 2, (q + 1) / 2, s + 1, ?_, ?_, ?_, by go_num, by go_num, by go_num⟩
          · rw [div_step, ← HP.out]
          · rw [cnt, ← HQ.out]
          · rw [accS, ← HP.out, ← HQ.out, ← HB.out, if_pos H2.out, HS.out]
        case measure => simp only [intOf]; have := H1.out; omega
      · have j2 : ¬ ((b : Int) < (q : Int)) := by omega
        have H2 := Lib.hid h2
        clear h2
        go_wp2
        go_roundw
        case rel =>
          refine ⟨trivial, t + 1, p / 2, (q + 1) / 2, s, ?_, ?_, ?_, by go_num, by go_num, rfl⟩
          · rw [div_step, ← HP.out]
          · rw [cnt, ← HQ.out]
          · rw [accS, ← HP.out, ← HQ.out, ← HB.out, if_neg H2.out, HS.out]; rfl
        case measure => simp only [intOf]; have := H1.out; omega
    · have j1 : ¬ ((1 : Int) < (q : Int)) := by omega
      have he : s = sizeM 20 n c := by rw [hs]; exact accS_end t 20 n c HN.out HC.out (by rw [← hq]; omega)
      have HE := Lib.hid he
      clear hp hq hs hpq hqc he
      go_wp2
      go_ret2
      exact ⟨by rw [HE.out]; rfl, rfl⟩
set_option maxRecDepth 100000 in
theorem msize_no (w : World) (n c : Int) (h : n < 0 ∨ c ≤ n ∨ 1048576 < c) :
    Calls Try.prog 48 #[.int .i64 n, .int .i64 c] w fun e w' => e = .returned (.tuple #[.int .i64 0, .int .i64 2]) ∧ w' = w := by
  by_cases h1 : n < 0
  · clear h
    go_enter Try.func48, Try.ntmps48
    go_wp2
    go_ret2
    exact ⟨rfl, rfl⟩
  by_cases h2 : c ≤ n
  · clear h
    go_enter Try.func48, Try.ntmps48
    go_wp2
    go_ret2
    exact ⟨rfl, rfl⟩
  · have h3 : 1048576 < c := by omega
    clear h
    go_enter Try.func48, Try.ntmps48
    go_wp2
    go_ret2
    exact ⟨rfl, rfl⟩

theorem msize_any (w : World) (n c : Int) :
    Calls Try.prog 48 #[.int .i64 n, .int .i64 c] w fun e w' => e = .returned (.tuple #[.int .i64 (if okPl n c then (sizeM 20 n.toNat c.toNat : Int) else 0), .int .i64 (if okPl n c then 0 else 2)]) ∧ w' = w := by
  by_cases h : okPl n c = true
  · rw [if_pos h, if_pos h]
    simp only [okPl, Bool.and_eq_true, decide_eq_true_eq] at h
    obtain ⟨a, rfl⟩ := Int.eq_ofNat_of_zero_le h.1.1
    obtain ⟨b, rfl⟩ := Int.eq_ofNat_of_zero_le (show 0 ≤ c by omega)
    simp only [Int.toNat_natCast]
    exact msize_ok w a b (by omega) (by omega)
  · rw [if_neg h, if_neg h]
    simp only [okPl, Bool.and_eq_true, decide_eq_true_eq] at h
    exact msize_no w n c (by omega)

/-- The root of hashes. -/
def rootB (l : List Bs) : Bs := topB l.length (if l = [] then [] else leftM knotB [] 20 (l.map leafB))

theorem leaves_h32 (l : List Bs) : H32 (l.map leafB) := by
  intro x hx
  obtain ⟨y, _, rfl⟩ := List.mem_map.1 hx
  exact leafB_length y

theorem upN_h32 {l : List Bs} (h : H32 l) (t : Nat) : H32 (upN knotB t l) := by
  induction t with
  | zero => exact h
  | succ t ih => exact up_h32 ih

theorem Hs.under {w w' : World} {v : Value} {l : List Bs} (h : Hs w v l) (hb : Below w.heap.size w w') : Hs w' v l := h.fresh hb

/-- A pointer's array, sliced whole: 32 bytes. -/
theorem Hs.rd {w : World} {ad : Addr} {n c : Nat} {l : List Bs} (h : Hs w (.slice (some ad) n c) l) {i : Nat} {x : Bs} (hi : l[i]? = some x) : Rd w 1 (.slice (some (ad.add (i * 32))) 32 32) 32 (bvs x) :=
  ⟨by rw [bvs_length, h.1.get hi], .inr ⟨_, _, rfl, Nat.le_refl _, by decide, h.elem' hi⟩⟩

set_option maxRecDepth 100000 in
set_option maxHeartbeats 1000000 in
theorem mroot_any (w : World) (v : Value) (l : List Bs) (h : Hs w v l) (hl : l.length ≤ 1048576) :
    Calls Try.prog 49 #[v] w fun e w' => e = .returned (.agg (bvs (rootB l)).toArray) ∧ Below w.heap.size w w' := by
  obtain ⟨a0, c0, rfl⟩ := h.slice
  obtain ⟨Z, hZ⟩ : ∃ Z, Z = rootB l := ⟨_, rfl⟩
  have hZl : Hid (Z.length = 32) := Lib.hid (by rw [hZ]; exact topB_length _ _)
  rw [← hZ]
  obtain ⟨ls, hls⟩ : ∃ ls, ls = l.map leafB := ⟨_, rfl⟩
  have CL := fun w0 h0 => leaves_any w0 (.slice a0 l.length c0) l h0 hl
  rw [← hls] at CL
  obtain ⟨N, hN⟩ : ∃ N, N = l.length := ⟨_, rfl⟩
  rw [← hN] at h hl CL ⊢
  have lsl : ls.length = N := by rw [hls, hN, List.length_map]
  have ls32 : H32 ls := by rw [hls]; exact leaves_h32 l
  have hz0 : N = 0 → Z = topB 0 [] := by
    intro h0
    have : l = [] := List.eq_nil_of_length_eq_zero (by omega)
    rw [hZ, this]; rfl
  have hz1 : ∀ t, (upN knotB t ls).length ≤ 1 → 0 < N → ∃ x, upN knotB t ls = [x] ∧ Z = topB N x := by
    intro t h1 h0
    refine ⟨_, upN_end knotB [] t 20 ls (by omega) (by omega) h1, ?_⟩
    rw [hZ, rootB, if_neg (by intro e; rw [e] at hN; simp at hN; omega), ← hls, hN]
  have H := Lib.hid h
  have HLS := Lib.hid (And.intro lsl ls32)
  have HZ0 := Lib.hid hz0
  have HZ1 := Lib.hid hz1
  replace CL := Lib.hid CL
  have HL := Lib.hid hl
  have bN : (N : Int) ≤ 1048576 := by omega
  clear h hls lsl ls32 hz0 hz1 hZ hN hl
  go_enter Try.func49, Try.ntmps49
  go_wp2_with fail
  obtain ⟨w1, h1, k1, b1, s1⟩ := alloc_cb w 24 (bvs (List.replicate 32 0))
  change Calls _ _ _ (w.alloc (.cells (bvs (List.replicate 32 0)).toArray 24)) _
  rw [← h1]
  refine (CL.out w1 (H.out.fresh b1)).mono ?_
  rintro e w2 ⟨v2, rfl, o2, b2⟩
  have hs2 := Lib.hid o2.hs
  have B2 := Lib.hid (b1.tr b2)
  have K2 := Lib.hid (k1.fresh b2)
  clear o2 b1 b2 k1 s1 h1
  obtain ⟨a2, c2, rfl⟩ := hs2.out.slice
  go_wp2
  go_loopw [3] (fun v3 wr => ∃ t, Hs wr v3 (upN knotB t ls) ∧ CB wr 24 w.heap.size (bvs (List.replicate 32 0)) ∧ Below w.heap.size w wr)
    (fun v _ => sliceLen v)
  case atStart => exact ⟨0, hs2.out, K2.out, B2.out⟩
  case round =>
    obtain ⟨t, hs, hk, hb⟩ := hrel
    obtain ⟨n, hn⟩ : ∃ n, n = (upN knotB t ls).length := ⟨_, rfl⟩
    obtain ⟨a3, c3, rfl⟩ := hs.slice' hn.symm
    have HS := Lib.hid hs
    have HK := Lib.hid hk
    have HB := Lib.hid hb
    have HN := Lib.hid hn
    have hnN : n ≤ N := by
      have := HLS.out.1
      rw [hn, upN_length, this]
      rcases Nat.eq_zero_or_pos N with h0 | h0
      · subst h0
        have : cnt 0 t = 0 := by clear hn hs HS HN; induction t with
          | zero => rfl
          | succ t ih => rw [cnt, ih]
        omega
      · exact cnt_le N t h0
    clear hs hk hb hn
    by_cases h1 : 1 < n
    · have j1 : (1 : Int) < (n : Int) := by omega
      have H1 := Lib.hid h1
      go_wp2_with fail
      refine (above_any wr _ _ HS.out (by rw [← HN.out]; omega)).mono ?_
      rintro e w3 ⟨v3, rfl, o3, b3⟩
      have hs3 := Lib.hid o3.hs
      have B3 := Lib.hid (HB.out.tr b3)
      have K3 := Lib.hid (HK.out.fresh b3)
      clear o3 b3
      obtain ⟨a4, c4, rfl⟩ := hs3.out.slice
      have hl4 := Lib.hid (up_length knotB (upN knotB t ls))
      rw [← HN.out] at hl4
      clear h1
      go_wp2
      go_roundw
      case rel => exact ⟨t + 1, hs3.out, K3.out, B3.out⟩
      case measure => simp only [sliceLen]; have := hl4.out; have := H1.out; omega
    · have j1 : ¬ ((1 : Int) < (n : Int)) := by omega
      by_cases h0 : n = 0
      · have hN0 : N = 0 := by
          have h2 := HN.out
          rw [upN_length, HLS.out.1] at h2
          rcases Nat.eq_zero_or_pos N with h3 | h3
          · exact h3
          · have := cnt_pos N t h3; omega
        have hZ' := Lib.hid (HZ0.out hN0)
        subst h0
        clear hN0 h1
        go_wp2_with fail
        refine (top_any wr 0 (.slice none 0 0) [] (by omega) (Rd.nil _ _) (by simp)).mono ?_
        rintro e w4 ⟨rfl, b4⟩
        rw [← hZ'.out]
        have B4 := Lib.hid (HB.out.tr b4)
        have K4 := Lib.hid (HK.out.fresh b4)
        clear b4
        go_wp2_with (with_reducible refine stopStore 24 ?_)
        refine Stop.go ?_
        refine wpList_store_var rfl 24 (.tmp 2) (.tmp 14) rfl (w.heap.size) _ rfl _ (bvs Z) rfl K4.out (by simp [hZl.out]) (bvs_one _) (by rw [bvs_length, hZl.out]; exact infoHash) ?_
        intro wf kf of
        have BF : Hid (Below w.heap.size w wf) := Below.only B4.out of (by omega)
        have KF := Lib.hid kf
        clear kf of
        go_wp2
        exact bodyPost_ret (results_cell1 rfl _ _ (w.heap.size) _ _ _ _ rfl KF.out Try.underlying24 rfl (by simp [hZl.out, infoHash])) rfl ⟨rfl, BF.out⟩
      · have hn1 : n = 1 := by omega
        have hNp : 0 < N := by omega
        obtain ⟨x, hx, hZx⟩ := HZ1.out t (by rw [← HN.out]; omega) hNp
        rw [hx] at HS
        have hZ' := Lib.hid hZx
        have hx32 := Lib.hid (HS.out.1.get (i := 0) rfl)
        subst hn1
        obtain ⟨ad, c4, he⟩ := HS.out.isSome (n := 1) rfl (by decide)
        simp only [Value.slice.injEq, true_and] at he
        obtain ⟨rfl, rfl⟩ := he
        have hr : Hid (Rd wr 1 (.slice (some ad) 32 32) x.length (bvs x)) := Lib.hid (by have := HS.out.rd (i := 0) rfl; rw [hx32.out]; simpa [Addr.add] using this)
        have j5 : ¬ ((N : Int) = 0) := by omega
        clear hx hZx hNp h0 h1
        go_wp2_with fail
        refine (top_any wr N _ x (by have := HL.out; omega) hr.out (by rw [hx32.out]; decide)).mono ?_
        rintro e w4 ⟨rfl, b4⟩
        rw [← hZ'.out]
        have B4 := Lib.hid (HB.out.tr b4)
        have K4 := Lib.hid (HK.out.fresh b4)
        clear b4
        go_wp2_with (with_reducible refine stopStore 24 ?_)
        refine Stop.go ?_
        refine wpList_store_var rfl 24 (.tmp 2) (.tmp 20) rfl (w.heap.size) _ rfl _ (bvs Z) rfl K4.out (by simp [hZl.out]) (bvs_one _) (by rw [bvs_length, hZl.out]; exact infoHash) ?_
        intro wf kf of
        have BF : Hid (Below w.heap.size w wf) := Below.only B4.out of (by omega)
        have KF := Lib.hid kf
        clear kf of
        go_wp2
        exact bodyPost_ret (results_cell1 rfl _ _ (w.heap.size) _ _ _ _ rfl KF.out Try.underlying24 rfl (by simp [hZl.out, infoHash])) rfl ⟨rfl, BF.out⟩

end Go.Proofs.Ytbabjepblakboaa

/- Merkle: the path of a place: the walk. -/
namespace Go.Proofs.Ytbabjepblakboaa
set_option linter.unusedVariables false
set_option linter.unusedSimpArgs false
open Go.RowKit Go.Lib

theorem results_cellT {P : Program} {fn : Func} {p u : Tmp} {ty : TypeId} (h : fn.results = #[.cell p ty, .tmp u]) (tmps : Array Value) (w : World) (g : Nat) (t : TypeId) (cs : Array Value) (fr : Nat × Nat) (d : TypeDesc)
    (hp : tmps.getD p undef = .pointer (some ⟨g, 0, none⟩)) (hg : w.heap[g]? = some (.cells cs t fr))
    (hu : P.underlying ty = some d) (hd : (match d with | .struct _ | .array _ _ => true | _ => false) = true) (hi : (P.info? ty).map (·.size) = some cs.size) :
    (results fn tmps).run P w = .ok (.tuple #[.agg cs, tmps.getD u undef]) w := by
  have hp' : tmps[p]?.getD undef = .pointer (some ⟨g, 0, none⟩) := by simpa using hp
  simp [results, h, hp', asAddr, run_loadVar_row w g t ty cs fr d hg hu hd hi]

theorem infoPath : (Try.prog.info? 92).map (·.size) = some 3 := by kernel_rfl

theorem own_only {w w' : World} {base g : Nat} {e : TypeId} {size : Nat} {v : Value} {n : Nat} {xs : List Value} (h : w.ownsRow base e size v n xs) (ho : Only g w w') (hg : v.ownBlock ≠ some g) : w'.ownsRow base e size v n xs := by
  refine ⟨h.1, ?_⟩
  rcases h.2 with h2 | ⟨k, cap, cur, hv, hk, hh, r⟩
  · exact .inl h2
  · exact .inr ⟨k, cap, cur, hv, hk, by rw [ho.block k (fun e => hg (by rw [hv, ← e]; rfl))]; exact hh, r⟩

theorem Ho.only {w w' : World} {base g : Nat} {v : Value} {l : List Bs} (h : Ho w base v l) (ho : Only g w w') (hg : g < base) : Ho w' base v l :=
  ⟨h.1, own_only h.2 ho (fun e => by have := (h.2.lt g e).1; omega)⟩

theorem Hs.only {w w' : World} {g : Nat} {v : Value} {l : List Bs} (h : Hs w v l) (ho : Only g w w') (hg : v.ownBlock ≠ some g) : Hs w' v l :=
  ⟨h.1, h.2.kept fun k _ hv => ho.block k (fun e => hg (by rw [hv, e]))⟩

theorem Hs.grown {w w' : World} {row : Option Nat} {v : Value} {l : List Bs} (h : Hs w v l) (ho : w.grownBy w' row) (hg : ∀ k, v.ownBlock = some k → row ≠ some k) : Hs w' v l :=
  ⟨h.1, h.2.kept fun k hk hv => ho.block k hk (fun e => hg k hv (by rw [e]))⟩

theorem CB.grown {w w' : World} {row : Option Nat} {e : TypeId} {g : Nat} {L : List Value} (h : CB w e g L) (ho : w.grownBy w' row) (hg : row ≠ some g) : CB w' e g L := by
  unfold CB
  rw [ho.block g h.lt (fun e => hg e.symm)]
  exact h

theorem Hs.own_lt {w : World} {v : Value} {l : List Bs} (h : Hs w v l) (h0 : 0 < l.length) {k : Nat} (hk : v.ownBlock = some k) : k < w.heap.size := by
  obtain ⟨ad, c, he, hc⟩ := h.elem (List.getElem?_eq_getElem h0)
  have hx := h.1 _ (List.getElem_mem h0)
  obtain ⟨u, hu⟩ : ∃ u, (bvs l[0])[0]? = some u := ⟨_, List.getElem?_eq_getElem (show 0 < (bvs l[0]).length by rw [bvs_length, hx]; decide)⟩
  have := block_lt_of_cell (hc 0 u hu)
  rw [Addr.add_block, Addr.add_block] at this
  rw [he] at hk
  simp [Value.ownBlock] at hk
  omega

theorem accP_next {α : Type} {K : α → α → α} {d : α} {n : Nat} {l : List α} {t : Nat} {x : α} (hx : (upN K t l)[bes (n / 2 ^ t)]? = some x) : accP K d n l (t + 1) = accP K d n l t ++ [x] := by
  rw [accP, if_pos (List.getElem?_eq_some_iff.1 hx).1, List.getD_eq_getElem?_getD, hx]
  rfl

theorem accP_same {α : Type} {K : α → α → α} {d : α} {n : Nat} {l : List α} {t : Nat} (hx : ¬ bes (n / 2 ^ t) < (upN K t l).length) : accP K d n l (t + 1) = accP K d n l t := by
  rw [accP, if_neg hx, List.append_nil]

set_option maxRecDepth 100000 in
set_option maxHeartbeats 1000000 in
theorem mpath_no (w : World) (n : Int) (v : Value) (l : List Bs) (h : Hs w v l) (hn : n < 0 ∨ (l.length : Int) ≤ n) :
    Calls Try.prog 47 #[.int .i64 n, v] w fun e w' => e = .returned (.tuple #[.agg #[.int .i64 0, .int .i64 0, .slice none 0 0], .int .i64 2]) ∧ Below w.heap.size w w' := by
  obtain ⟨a0, c0, rfl⟩ := h.slice
  have CS := Lib.hid (fun w0 => msize_no w0 n (l.length : Int) (by omega))
  clear h hn
  go_enter Try.func47, Try.ntmps47
  go_wp2_with fail
  refine (CS.out _).mono ?_
  rintro e w1 ⟨rfl, hw1⟩
  have b1 : Below w.heap.size w w1 := by rw [hw1]; exact (Below.refl _ w).alloc (Nat.le_refl _) _
  have k1 : CB w1 92 w.heap.size [.int .i64 0, .int .i64 0, .slice none 0 0] := by rw [hw1]; exact CB.new w _ [.int .i64 0, .int .i64 0, .slice none 0 0]
  have B1 := Lib.hid b1
  have K1 := Lib.hid k1
  clear b1 k1 hw1
  go_wp2_with (with_reducible refine stopStore 92 ?_)
  refine Stop.go ?_
  refine wpList_store_var rfl 92 (.tmp 4) (.tmp 19) rfl w.heap.size _ rfl _ [.int .i64 0, .int .i64 0, .slice none 0 0] rfl K1.out (by simp) (by decide) (by exact infoPath) ?_
  intro w2 k2 o2
  have B2 : Hid (Below w.heap.size w w2) := Below.only B1.out o2 (Nat.le_refl _)
  have K2 := Lib.hid k2
  clear k2 o2 K1 B1
  go_wp2
  exact bodyPost_ret (results_cellT rfl _ _ w.heap.size _ _ _ _ rfl K2.out Try.underlying92 rfl (by exact infoPath)) rfl ⟨rfl, B2.out⟩

set_option maxRecDepth 100000 in
set_option maxHeartbeats 2000000 in
theorem mpath_ok (w : World) (n : Nat) (v : Value) (l : List Bs) (h : Hs w v l) (hn : n < l.length) (hl : l.length ≤ 1048576) :
    Calls Try.prog 47 #[.int .i64 (n : Int), v] w fun e w' => ∃ v', e = .returned (.tuple #[.agg #[.int .i64 (n : Int), .int .i64 (l.length : Int), v'], .int .i64 0]) ∧ Hs w' v' (pathM knotB [] 20 n (l.map leafB)) ∧ Below w.heap.size w w' := by
  obtain ⟨i0, hi, hz0, hz1, hz2⟩ := info_parts infoHash3
  obtain ⟨a0, c0, rfl⟩ := h.slice
  have CS := Lib.hid (fun w0 => msize_ok w0 n l.length hn hl)
  have CL := fun w0 h0 => leaves_any w0 (.slice a0 l.length c0) l h0 hl
  obtain ⟨ls, hls⟩ : ∃ ls, ls = l.map leafB := ⟨_, rfl⟩
  rw [← hls] at CL ⊢
  obtain ⟨N, hN⟩ : ∃ N, N = l.length := ⟨_, rfl⟩
  have lsl : ls.length = N := by rw [hls, hN, List.length_map]
  have ls32 : H32 ls := by rw [hls]; exact leaves_h32 l
  rw [← hN] at h hn hl CL CS ⊢
  have HLS := Lib.hid (And.intro lsl ls32)
  have H := Lib.hid h
  replace CL := Lib.hid CL
  have HB := Lib.hid (And.intro hn hl)
  clear h hls lsl ls32 hN hn hl
  obtain ⟨sz, hsz⟩ : ∃ s, s = sizeM 20 n N := ⟨_, rfl⟩
  rw [← hsz] at CS
  clear hsz
  go_enter Try.func47, Try.ntmps47
  go_wp2_with fail
  refine (CS.out _).mono ?_
  rintro e w1 ⟨rfl, hw1⟩
  have b1 : Below w.heap.size w w1 := by rw [hw1]; exact (Below.refl _ w).alloc (Nat.le_refl _) _
  have k1 : CB w1 92 w.heap.size [.int .i64 0, .int .i64 0, .slice none 0 0] := by rw [hw1]; exact CB.new w _ [.int .i64 0, .int .i64 0, .slice none 0 0]
  have s1 : w1.heap.size = w.heap.size + 1 := by rw [hw1]; exact Array.size_push _
  have B1 := Lib.hid b1
  have K1 := Lib.hid k1
  have S1 := Lib.hid s1
  clear b1 k1 hw1 s1
  go_wp2_with (with_reducible refine stopStore 92 ?_)
  refine Stop.go ?_
  obtain ⟨G, hG⟩ : ∃ G, G = w1.heap.size := ⟨_, rfl⟩
  rw [← hG]
  have ba : Below w1.heap.size w1 (w1.alloc (Obj.cells #[.int .i64 0, .int .i64 0, .slice none 0 0] 92)) := (Below.refl _ w1).alloc (Nat.le_refl _) _
  refine wpList_store_var rfl 92 (.tmp 8) (.tmp 24) rfl G _ rfl _ [.int .i64 (n : Int), .int .i64 (N : Int), .slice none 0 0] rfl (by rw [hG]; exact heap_alloc_new w1 _) (by simp) (by intro u hu; simp at hu; rcases hu with rfl | rfl | rfl <;> rfl) (by exact infoPath) ?_
  intro w2 k2 o2
  have b2 : Below w1.heap.size w1 w2 := Below.only ba o2 (by omega)
  have z2 : G + 1 ≤ w2.heap.size := by rw [o2.size, hG]; exact Nat.le_of_eq (Array.size_push _).symm
  have gw : w.heap.size < G := by have := S1.out; omega
  have B2 := Lib.hid (B1.out.tr b2)
  have R2 := Lib.hid (K1.out.fresh b2)
  have K2 : Hid (CB w2 92 G [.int .i64 (n : Int), .int .i64 (N : Int), .slice none 0 0]) := Lib.hid k2
  have GW := Lib.hid gw
  have Z2 := Lib.hid z2
  clear ba k2 o2 b2 z2 gw hG B1 K1 S1
  go_wp2_with fail
  refine (CL.out w2 (H.out.fresh B2.out)).mono ?_
  rintro e w3 ⟨v3, rfl, o3, b3⟩
  have hs3 := Lib.hid o3.hs
  have ha3 := Lib.hid (fun k (hk : v3.ownBlock = some k) => Nat.le_trans Z2.out (o3.2.lt k hk).1)
  have B3 := Lib.hid (B2.out.tr b3)
  have R3 := Lib.hid (R2.out.fresh b3)
  have K3 := Lib.hid (K2.out.fresh b3)
  have Z3 : Hid (G + 1 ≤ w3.heap.size) := Nat.le_trans Z2.out b3.size
  clear o3 b3 B2 R2 K2 Z2
  obtain ⟨a3, c3, rfl⟩ := hs3.out.slice
  go_wp2
  go_loopw [0, 9] (fun v0 v9 wr => ∃ (t p : Nat) (vp : Value), p = n / 2 ^ t ∧ v0 = .int .i64 (p : Int) ∧ Hs wr v9 (upN knotB t ls) ∧ CB wr 92 w.heap.size [.int .i64 0, .int .i64 0, .slice none 0 0] ∧
      CB wr 92 G [.int .i64 (n : Int), .int .i64 (N : Int), vp] ∧ Ho wr (G + 1) vp (accP knotB [] n ls t) ∧ (∀ k, v9.ownBlock = some k → G + 1 ≤ k ∧ vp.ownBlock ≠ some k) ∧ G + 1 ≤ wr.heap.size ∧ Below w.heap.size w wr)
    (fun _ v _ => sliceLen v)
  case atStart => exact ⟨0, n, _, by simp, rfl, hs3.out, R3.out, K3.out, Ho.nil _ _, fun k hk => ⟨ha3.out k hk, by simp [Value.ownBlock]⟩, Z3.out, B3.out⟩
  case round =>
    obtain ⟨t, p, vp, hp, rfl, hs, hr, hk, ho, ha, hz, hb⟩ := hrel
    obtain ⟨q, hq⟩ : ∃ q, q = (upN knotB t ls).length := ⟨_, rfl⟩
    obtain ⟨a4, c4, rfl⟩ := hs.slice' hq.symm
    have hqc : q = cnt N t := by rw [hq, upN_length, HLS.out.1]
    have hpq : p < q := by rw [hp, hqc]; exact cnt_div n N t HB.out.1
    have hqN : q ≤ N := by rw [hqc]; exact cnt_le N t (by have := HB.out.1; omega)
    have HS := Lib.hid hs
    have HR := Lib.hid hr
    have HK := Lib.hid hk
    have HO := Lib.hid ho
    have HA := Lib.hid ha
    have HZ := Lib.hid hz
    have HW := Lib.hid hb
    have HP := Lib.hid hp
    have HQ := Lib.hid (And.intro hq (And.intro hqc (And.intro hpq hqN)))
    clear hp hs hr hk ho ha hz hb hq
    by_cases h1 : 1 < q
    · have j1 : (1 : Int) < (q : Int) := by omega
      have ht : t < 20 := cnt_many N t HB.out.2 (by have := HB.out.1; omega) (by rw [← hqc]; exact h1)
      have jx := bits_xor1 p (by have := HB.out.2; omega)
      obtain ⟨b, hb⟩ : ∃ b, b = bes p := ⟨_, rfl⟩
      rw [← hb] at jx
      have jp := tdiv2 p
      have HBs := Lib.hid hb
      have bp : (p : Int) ≤ 1048576 := by have := HB.out.2; omega
      have bq : (q : Int) ≤ 1048576 := by have := HB.out.2; omega
      have H1 := Lib.hid h1
      clear hqc hpq hqN hb h1 ht
      by_cases h2 : b < q
      · have j2 : (b : Int) < (q : Int) := by omega
        have H2 := Lib.hid h2
        clear h2
        obtain ⟨x, hx⟩ : ∃ x, (upN knotB t ls)[b]? = some x := ⟨_, List.getElem?_eq_getElem (by rw [← HQ.out.1]; exact H2.out)⟩
        obtain ⟨ad, c5, he⟩ := HS.out.isSome HQ.out.1.symm (by have := H1.out; omega)
        simp only [Value.slice.injEq, true_and] at he
        obtain ⟨rfl, rfl⟩ := he
        have hS : Hid (CB wr.drew 92 G [.int .i64 (n : Int), .int .i64 (N : Int), vp] ∧ Hs wr.drew (.slice (some ad) q c4) (upN knotB t ls)) := Lib.hid ⟨HK.out, HS.out.fresh (Below.refl _ _).drew⟩
        have HX := Lib.hid hx
        have HX32 := Lib.hid (HS.out.1.get hx)
        clear hx
        go_wp2_with fail
        refine pf_start 11 rfl (fun w' => CB w' 92 G [.int .i64 (n : Int), .int .i64 (N : Int), vp] ∧ Hs w' (.slice (some ad) q c4) (upN knotB t ls)) (fun i => i == 10) (by kernel_rfl) ?_
        refine pf_take (i := 0) 39 rfl rfl rfl (by kernel_rfl) (by kernel_rfl) (by kernel_rfl) (by kernel_rfl) (by kernel_rfl) (by simp [Act.put]) hS.out ?_
        apply Exists.intro
        refine And.intro (fun w' hS' => ?_) ?_
        · clear hS'
          go_wp2
          exact ⟨trivial, rfl⟩
        refine pf_take (i := 1) 40 rfl rfl rfl (by kernel_rfl) (by kernel_rfl) (by kernel_rfl) (by kernel_rfl) (by kernel_rfl) (by simp [Act.put]) hS.out ?_
        apply Exists.intro
        refine And.intro (fun w' hS' => ?_) ?_
        · have hc := hS'.1.cell 2 vp rfl
          clear hS'
          go_wp2
          exact ⟨trivial, rfl⟩
        refine pf_take (i := 2) 41 rfl rfl rfl (by kernel_rfl) (by kernel_rfl) (by kernel_rfl) (by kernel_rfl) (by kernel_rfl) (by simp [Act.put]) hS.out ?_
        apply Exists.intro
        refine And.intro (fun w' hS' => ?_) ?_
        · clear hS'
          go_wp2
          exact ⟨trivial, rfl⟩
        refine pf_take (i := 3) 42 rfl rfl rfl (by kernel_rfl) (by kernel_rfl) (by kernel_rfl) (by kernel_rfl) (by kernel_rfl) (by simp [Act.put]) hS.out ?_
        apply Exists.intro
        refine And.intro (fun w' hS' => ?_) ?_
        · clear hS'
          go_wp2
          exact ⟨trivial, rfl⟩
        refine pf_take (i := 4) 43 rfl rfl rfl (by kernel_rfl) (by kernel_rfl) (by kernel_rfl) (by kernel_rfl) (by kernel_rfl) (by simp [Act.put]) hS.out ?_
        apply Exists.intro
        refine And.intro (fun w' hS' => ?_) ?_
        · clear hS'
          go_wp2
          exact ⟨trivial, rfl⟩
        refine pf_take (i := 5) 44 rfl rfl rfl (by kernel_rfl) (by kernel_rfl) (by kernel_rfl) (by kernel_rfl) (by kernel_rfl) (by simp [Act.put]) hS.out ?_
        apply Exists.intro
        refine And.intro (fun w' hS' => ?_) ?_
        · clear hS'
          go_wp2
          exact ⟨trivial, rfl⟩
        refine pf_take (i := 6) 45 rfl rfl rfl (by kernel_rfl) (by kernel_rfl) (by kernel_rfl) (by kernel_rfl) (by kernel_rfl) (by simp [Act.put]) hS.out ?_
        apply Exists.intro
        refine And.intro (fun w' hS' => ?_) ?_
        · refine wpList_load_agg rfl 24 (.tmp 44) rfl (ad.add (b * 32)) rfl (bvs x) _ (hS'.2.elem' HX.out) Try.underlying24 rfl (by rw [bvs_length, HX32.out]; exact infoHash) ?_
          clear hS'
          go_wp2
          exact ⟨trivial, rfl⟩
        refine pf_heavy (i := 7) rfl (by kernel_rfl) ?_
        refine wpList_buildH rfl 1 _ rfl ([x]) (H32.one HX32.out) rfl (by decide) (by decide) (by kernel_rfl) ?_
        intro w4 p4 b4 s4
        have S4 : Hid (CB w4 92 G [.int .i64 (n : Int), .int .i64 (N : Int), vp] ∧ Hs w4 (.slice (some ad) q c4) (upN knotB t ls)) := Lib.hid ⟨hS.out.1.fresh b4, hS.out.2.fresh b4⟩
        have O4 := HO.out.fresh ((Below.refl _ wr).drew.tr b4)
        have B4 := Lib.hid (HW.out.drew.tr b4)
        have R4 := Lib.hid (HR.out.fresh ((Below.refl _ wr).drew.tr b4))
        have P4 := Lib.hid p4
        have O4l := O4.2
        have Z4 : G + 1 ≤ w4.heap.size := Nat.le_trans HZ.out b4.size
        obtain ⟨L, hL⟩ : ∃ L, L = accP knotB [] n ls t := ⟨_, rfl⟩
        rw [← hL] at O4 O4l
        have O4' := Lib.hid O4
        have HLq := Lib.hid hL
        have hLb : Hid (L.length ≤ 1048576) := Lib.hid (by rw [hL, accP_length]; have h1 := accS_le n ls.length t; have h2 := cnt_many N t HB.out.2 (by have := HB.out.1; omega) (by rw [← HQ.out.2.1]; exact H1.out); omega)
        replace Z4 := Lib.hid Z4
        have O4l' := Lib.hid O4l
        clear p4 b4 s4 O4 O4l hL
        go_wp2
        refine And.intro S4.out ?_
        refine pf_heavy (i := 8) rfl (by kernel_rfl) ?_
        refine wpList_append_rd _ rfl (.tmp 40) (.tmp 46) 22 rfl (G + 1) 24 i0 _ 32 32 Try.underlying22 hi hz0 hz1 hz2 (by simp [Value.cells]) (by decide) vp L.length (bvs L.flatten) rfl O4l'.out _ 1 _ rfl P4.out.2 (bvs_one _) (by unfold maxLen; have := hLb.out; omega) (by have := hLb.out; omega) Z4.out ?_
        intro v5 w5 hown5 hgr5 _ hnew
        have hgne : vp.ownBlock ≠ some G := fun e => by have := (O4l'.out.lt G e).1; omega
        have S5 : Hid (CB w5 92 G [.int .i64 (n : Int), .int .i64 (N : Int), vp] ∧ Hs w5 (.slice (some ad) q c4) (upN knotB t ls)) := Lib.hid ⟨S4.out.1.grown hgr5 hgne, S4.out.2.grown hgr5 (fun k hk => (HA.out k hk).2)⟩
        have hgw : vp.ownBlock ≠ some w.heap.size := fun e => by have := (O4l'.out.lt _ e).1; have := GW.out; omega
        have R5 := Lib.hid (R4.out.grown hgr5 hgw)
        have B5 := Lib.hid (B4.out.grown hgr5 B4.out.size (fun j hj => by have := (O4l'.out.lt j hj).1; have := GW.out; omega))
        have O5 : Hid (Ho w5 (G + 1) v5 (accP knotB [] n ls (t + 1))) := Lib.hid (by
          rw [accP_next (x := x) (by rw [← HP.out, ← HBs.out]; exact HX.out), ← HLq.out]
          refine ⟨O4'.out.1.append P4.out.1, ?_⟩
          rw [List.flatten_append, bvs_append, List.length_append]
          exact hown5)
        have A5 : Hid (∀ k, (Value.slice (some ad) q c4).ownBlock = some k → G + 1 ≤ k ∧ v5.ownBlock ≠ some k) := Lib.hid (fun k hk => ⟨(HA.out k hk).1, fun e => by
          rcases hnew k e with h | h
          · exact (HA.out k hk).2 h
          · have := S4.out.2.own_lt (by rw [← HQ.out.1]; have := H1.out; omega) hk
            omega⟩)
        obtain ⟨a5, m5, c5', rfl⟩ : ∃ a m c, v5 = .slice a m c := by obtain ⟨a, c, h⟩ := O5.out.slice; exact ⟨_, _, _, h⟩
        have Z5 : Hid (G + 1 ≤ w5.heap.size) := Lib.hid (Nat.le_trans Z4.out hgr5.size)
        clear hown5 hgr5 hnew hgne hgw
        go_wp2
        refine And.intro S5.out ?_
        refine pf_heavy (i := 9) rfl (by kernel_rfl) ?_
        go_wp2
        refine And.intro S5.out ?_
        refine pf_last (i := 10) rfl (by kernel_rfl) (by kernel_rfl) ?_
        have hc := S5.out.1.cell 2 vp rfl
        have hf := S5.out.1.free 2
        obtain ⟨w6, hw6, o6, k6⟩ : ∃ w6, w6 = w5.setCell ⟨G, 2, none⟩ (.slice a5 m5 c5') ∧ Only G w5 w6 ∧ CB w6 92 G [.int .i64 (n : Int), .int .i64 (N : Int), .slice a5 m5 c5'] :=
          ⟨_, rfl, Only.setCell w5 G 2 _, S5.out.1.set 2 (.slice a5 m5 c5')⟩
        have K6 := Lib.hid k6
        have R6 := Lib.hid (R5.out.only o6 (by have := GW.out; omega))
        have O6 := Lib.hid (O5.out.only o6 (by omega))
        have H6 := Lib.hid (S5.out.2.only o6 (fun e => by have := (A5.out G e).1; omega))
        have B6 : Hid (Below w.heap.size w w6) := Lib.hid (Below.only B5.out o6 (by have := GW.out; omega))
        have Z6 : Hid (G + 1 ≤ w6.heap.size) := Lib.hid (by rw [o6.size]; exact Z5.out)
        have W6 := Lib.hid hw6
        clear o6 k6 hw6 S5 R5 O5 B5 Z5 S4 O4' B4 R4 P4 Z4 O4l' hLb HLq hS
        go_wp2
        rw [← W6.out]
        clear W6
        clear hc hf
        refine pf_done (by kernel_rfl) ?_
        go_wp2_with fail
        refine (above_any w6 _ _ H6.out (by rw [← HQ.out.1]; have := HQ.out.2.2.2; have := HB.out.2; omega)).mono ?_
        rintro e w7 ⟨v7, rfl, o7, b7⟩
        have H7 := Lib.hid o7.hs
        have A7 : Hid (∀ k, v7.ownBlock = some k → G + 1 ≤ k ∧ (Value.slice a5 m5 c5').ownBlock ≠ some k) := Lib.hid (fun k hk => by
          have h1 := (o7.2.lt k hk).1
          refine ⟨Nat.le_trans Z6.out h1, fun e => ?_⟩
          have := (O6.out.2.lt k e).2
          omega)
        have K7 := Lib.hid (K6.out.fresh b7)
        have R7 := Lib.hid (R6.out.fresh b7)
        have O7 := Lib.hid (O6.out.fresh b7)
        have B7 := Lib.hid (B6.out.tr b7)
        have Z7 : Hid (G + 1 ≤ w7.heap.size) := Lib.hid (Nat.le_trans Z6.out b7.size)
        clear o7 b7
        obtain ⟨a8, c8, rfl⟩ := H7.out.slice
        have hl8 := Lib.hid (up_length knotB (upN knotB t ls))
        rw [← HQ.out.1] at hl8
        clear K6 R6 O6 B6 Z6 H6
        go_wp2
        go_roundw
        case rel => exact ⟨t + 1, p / 2, _, by rw [div_step, ← HP.out], by go_num, H7.out, R7.out, K7.out, O7.out, A7.out, Z7.out, B7.out⟩
        case measure => simp only [sliceLen]; have := hl8.out; have := H1.out; omega
      · have j2 : ¬ ((b : Int) < (q : Int)) := by omega
        have O6 : Hid (Ho wr (G + 1) vp (accP knotB [] n ls (t + 1))) := Lib.hid (by rw [accP_same (by rw [← HP.out, ← HBs.out, ← HQ.out.1]; exact h2)]; exact HO.out)
        go_wp2_with fail
        refine (above_any wr _ _ HS.out (by rw [← HQ.out.1]; have := HQ.out.2.2.2; have := HB.out.2; omega)).mono ?_
        rintro e w7 ⟨v7, rfl, o7, b7⟩
        have H7 := Lib.hid o7.hs
        have A7 : Hid (∀ k, v7.ownBlock = some k → G + 1 ≤ k ∧ vp.ownBlock ≠ some k) := Lib.hid (fun k hk => by
          have h1 := (o7.2.lt k hk).1
          refine ⟨Nat.le_trans HZ.out h1, fun e => ?_⟩
          have := (O6.out.2.lt k e).2
          omega)
        have K7 := Lib.hid (HK.out.fresh b7)
        have R7 := Lib.hid (HR.out.fresh b7)
        have O7 := Lib.hid (O6.out.fresh b7)
        have B7 := Lib.hid (HW.out.tr b7)
        have Z7 : Hid (G + 1 ≤ w7.heap.size) := Lib.hid (Nat.le_trans HZ.out b7.size)
        clear o7 b7
        obtain ⟨a8, c8, rfl⟩ := H7.out.slice
        have hl8 := Lib.hid (up_length knotB (upN knotB t ls))
        rw [← HQ.out.1] at hl8
        go_wp2
        go_roundw
        case rel => exact ⟨t + 1, p / 2, _, by rw [div_step, ← HP.out], by go_num, H7.out, R7.out, K7.out, O7.out, A7.out, Z7.out, B7.out⟩
        case measure => simp only [sliceLen]; have := hl8.out; have := H1.out; omega
    · have j1 : ¬ ((1 : Int) < (q : Int)) := by omega
      have HF : Hid (Hs wr vp (pathM knotB [] 20 n ls)) := Lib.hid (by
        have h1 := HO.out.hs
        rwa [accP_end knotB [] t 20 n ls (by rw [HLS.out.1]; exact HB.out.1) (by rw [HLS.out.1]; exact HB.out.2) (by rw [← HQ.out.1]; omega)] at h1)
      clear hqc hpq hqN h1
      go_wp2_with (with_reducible refine stopAt 49 ?_)
      refine Stop.go ?_
      refine wpList_load_agg rfl 92 (.tmp 8) rfl ⟨G, 0, none⟩ rfl [.int .i64 (n : Int), .int .i64 (N : Int), vp] _ (At.block HK.out).load Try.underlying92 rfl (by exact infoPath) ?_
      go_wp2_with (with_reducible refine stopStore 92 ?_)
      refine Stop.go ?_
      obtain ⟨a9, m9, c9, rfl⟩ : ∃ a m c, vp = .slice a m c := by obtain ⟨a, c, h⟩ := HF.out.slice; exact ⟨_, _, _, h⟩
      refine wpList_store_var rfl 92 (.tmp 4) (.tmp 49) rfl w.heap.size _ rfl _ [.int .i64 (n : Int), .int .i64 (N : Int), .slice a9 m9 c9] rfl HR.out (by simp) (by intro u hu; simp at hu; rcases hu with rfl | rfl | rfl <;> rfl) (by exact infoPath) ?_
      intro wf kf of
      have BF : Hid (Below w.heap.size w wf) := Below.only HW.out of (Nat.le_refl _)
      have HFF := Lib.hid (HF.out.only of (fun e => by have := (HO.out.2.lt _ e).1; have := GW.out; omega))
      have KF := Lib.hid kf
      clear kf of
      go_wp2
      exact bodyPost_ret (results_cellT rfl _ _ w.heap.size _ _ _ _ rfl KF.out Try.underlying92 rfl (by exact infoPath)) rfl ⟨_, rfl, HFF.out, BF.out⟩
end Go.Proofs.Ytbabjepblakboaa

/- Merkle: what a path comes to: the walk. -/
namespace Go.Proofs.Ytbabjepblakboaa
set_option linter.unusedVariables false
set_option linter.unusedSimpArgs false
open Go.RowKit Go.Lib

theorem Hs.part {w : World} {a : Option Addr} {n c : Nat} {l : List Bs} (h : Hs w (.slice a n c) l) (hn : n = l.length) (o k : Nat) (ho : o + k ≤ n) :
    Hs w (.slice (if c = o then a else a.map (·.add (o * 32))) k (c - o)) ((l.drop o).take k) := by
  have h1 := h.2
  rw [← hn] at h1
  have h2 := Rd.sub h1 o k ho
  refine ⟨(h.1.drop o).take k, ?_⟩
  rw [List.length_take, List.length_drop, ← hn, show min k (n - o) = k by omega, (h.1.drop o).take_flat, h.1.drop_flat]
  simpa [bvs, List.map_take, List.map_drop] using h2

def mayB (n c : Int) (hs : List Bs) : Bool := okPl n c && (hs.length == sizeM 20 n.toNat c.toNat)
def leadB (n c : Nat) (x : Bs) (hs : List Bs) : Bs := topB c (leadM knotB [] 20 n c (leafB x) hs)

theorem mayB_ok {n c : Int} {hs : List Bs} (h : mayB n c hs = true) : ∃ a b : Nat, n = a ∧ c = b ∧ a < b ∧ b ≤ 1048576 ∧ hs.length = sizeM 20 a b := by
  simp only [mayB, okPl, Bool.and_eq_true, decide_eq_true_eq, beq_iff_eq] at h
  obtain ⟨⟨⟨h1, h2⟩, h3⟩, h4⟩ := h
  obtain ⟨a, rfl⟩ := Int.eq_ofNat_of_zero_le h1
  obtain ⟨b, rfl⟩ := Int.eq_ofNat_of_zero_le (show 0 ≤ c by omega)
  exact ⟨a, b, rfl, rfl, by omega, by omega, by simpa using h4⟩

theorem replicate_bvs : (bvs (List.replicate 32 0)).length = 32 := by simp

set_option maxRecDepth 100000 in
set_option maxHeartbeats 1000000 in
theorem mlead_no (w : World) (x : Bs) (n c : Int) (v : Value) (hs : List Bs) (h : Hs w v hs) (hm : mayB n c hs = false) :
    Calls Try.prog 55 #[.agg (bvs x).toArray, .agg #[.int .i64 n, .int .i64 c, v]] w fun e w' => e = .returned (.tuple #[.agg (bvs (List.replicate 32 0)).toArray, .int .i64 21]) ∧ Below w.heap.size w w' := by
  obtain ⟨a0, c0, rfl⟩ := h.slice
  have CS := Lib.hid (fun w0 => msize_any w0 n c)
  cases hok : okPl n c with
  | false =>
    rw [hok] at CS
    simp only [Bool.false_eq_true, if_false] at CS
    clear h hm hok
    go_enter Try.func55, Try.ntmps55
    go_wp2_with fail
    obtain ⟨w1, h1, k1, b1, s1⟩ := alloc_cb w 24 (bvs x)
    obtain ⟨w2, h2, k2, b2, s2⟩ := alloc_cb w1 92 [.int .i64 n, .int .i64 c, .slice a0 hs.length c0]
    obtain ⟨w3, h3, k3, b3, s3⟩ := alloc_cb w2 24 (bvs (List.replicate 32 0))
    change Code.wp _ _ _ _ (((w.alloc (.cells (bvs x).toArray 24)).alloc (.cells [.int .i64 n, .int .i64 c, .slice a0 hs.length c0].toArray 92)).alloc (.cells (bvs (List.replicate 32 0)).toArray 24))
    rw [← h1, ← h2, ← h3]
    rw [s1] at s2 k2
    rw [s2] at s3 k3
    have k2' := k2.fresh b3
    have hc0 := k2'.cell 0 _ rfl
    have hc1 := k2'.cell 1 _ rfl
    have hc2 := k2'.cell 2 _ rfl
    have B3 := Lib.hid ((b1.tr b2).tr b3)
    have K3 := Lib.hid k3
    clear k2' h1 h2 h3 k1 k2 k3 b1 b2 b3 s1 s2 s3
    go_step3
    go_wp2_with fail
    refine (CS.out _).mono ?_
    rintro e w4 ⟨rfl, rfl⟩
    go_wp2_with (with_reducible refine stopStore 24 ?_)
    refine Stop.go ?_
    refine wpList_store_var rfl 24 (.tmp 4) (.tmp 29) rfl (w.heap.size + 1 + 1) _ rfl _ (bvs (List.replicate 32 0)) rfl K3.out (by simp) (bvs_one _) (by rw [replicate_bvs]; exact infoHash) ?_
    intro wf kf of
    have BF : Hid (Below w.heap.size w wf) := Below.only B3.out of (by omega)
    have KF := Lib.hid kf
    clear kf of
    go_wp2
    rw [Exit.noGoto_ret]
    exact bodyPost_ret (results_cellT rfl _ _ (w.heap.size + 1 + 1) _ _ _ _ rfl KF.out Try.underlying24 rfl (by simp [infoHash])) rfl ⟨rfl, BF.out⟩
  | true =>
    rw [hok] at CS
    simp only [if_true] at CS
    have hne : hs.length ≠ sizeM 20 n.toNat c.toNat := by
      simp only [mayB, hok, Bool.true_and, beq_eq_false_iff_ne] at hm
      exact hm
    obtain ⟨sz, hsz⟩ : ∃ s, s = sizeM 20 n.toNat c.toNat := ⟨_, rfl⟩
    rw [← hsz] at CS hne
    obtain ⟨hl, hhl⟩ : ∃ s, s = hs.length := ⟨_, rfl⟩
    rw [← hhl] at hne ⊢
    have j1 : ¬ ((hl : Int) = (sz : Int)) := by omega
    clear h hm hok hsz hhl hne
    go_enter Try.func55, Try.ntmps55
    go_wp2_with fail
    obtain ⟨w1, h1, k1, b1, s1⟩ := alloc_cb w 24 (bvs x)
    obtain ⟨w2, h2, k2, b2, s2⟩ := alloc_cb w1 92 [.int .i64 n, .int .i64 c, .slice a0 hl c0]
    obtain ⟨w3, h3, k3, b3, s3⟩ := alloc_cb w2 24 (bvs (List.replicate 32 0))
    change Code.wp _ _ _ _ (((w.alloc (.cells (bvs x).toArray 24)).alloc (.cells [.int .i64 n, .int .i64 c, .slice a0 hl c0].toArray 92)).alloc (.cells (bvs (List.replicate 32 0)).toArray 24))
    rw [← h1, ← h2, ← h3]
    rw [s1] at s2 k2
    rw [s2] at s3 k3
    have k2' := k2.fresh b3
    have hc0 := k2'.cell 0 _ rfl
    have hc1 := k2'.cell 1 _ rfl
    have hc2 := k2'.cell 2 _ rfl
    have B3 := Lib.hid ((b1.tr b2).tr b3)
    have K3 := Lib.hid k3
    clear k2' h1 h2 h3 k1 k2 k3 b1 b2 b3 s1 s2 s3
    go_step3
    go_wp2_with fail
    refine (CS.out _).mono ?_
    rintro e w4 ⟨rfl, rfl⟩
    go_wp2_with (with_reducible refine stopStore 24 ?_)
    refine Stop.go ?_
    refine wpList_store_var rfl 24 (.tmp 4) (.tmp 29) rfl (w.heap.size + 1 + 1) _ rfl _ (bvs (List.replicate 32 0)) rfl K3.out (by simp) (bvs_one _) (by rw [replicate_bvs]; exact infoHash) ?_
    intro wf kf of
    have BF : Hid (Below w.heap.size w wf) := Below.only B3.out of (by omega)
    have KF := Lib.hid kf
    clear kf of
    go_wp2
    rw [Exit.noGoto_ret]
    exact bodyPost_ret (results_cellT rfl _ _ (w.heap.size + 1 + 1) _ _ _ _ rfl KF.out Try.underlying24 rfl (by simp [infoHash])) rfl ⟨rfl, BF.out⟩

theorem accL_h32 {n c : Nat} {a : Bs} {hs : List Bs} (ha : a.length = 32) (t : Nat) : (accL knotB [] n c a hs t).1.length = 32 := by
  induction t with
  | zero => exact ha
  | succ t ih =>
    rw [accL, stepL]
    split
    · show (if _ then _ else _ : Bs).length = 32
      split <;> exact knotB_length _ _
    · exact ih

set_option maxRecDepth 100000 in
set_option maxHeartbeats 4000000 in
theorem mlead_ok (w : World) (x : Bs) (n c : Nat) (v : Value) (hs : List Bs) (hx : x.length = 32) (h : Hs w v hs) (hn : n < c) (hc : c ≤ 1048576) (hl : hs.length = sizeM 20 n c) :
    Calls Try.prog 55 #[.agg (bvs x).toArray, .agg #[.int .i64 (n : Int), .int .i64 (c : Int), v]] w fun e w' => e = .returned (.tuple #[.agg (bvs (leadB n c x hs)).toArray, .int .i64 0]) ∧ Below w.heap.size w w' := by
  obtain ⟨a0, c0, rfl⟩ := h.slice
  have CS := fun w0 => msize_ok w0 n c hn hc
  rw [← hl] at CS
  obtain ⟨Z, hZ⟩ : ∃ Z, Z = leadB n c x hs := ⟨_, rfl⟩
  have hZl : Hid (Z.length = 32) := Lib.hid (by rw [hZ]; exact topB_length _ _)
  have hend : ∀ t, cnt c t ≤ 1 → Z = topB c (accL knotB [] n c (leafB x) hs t).1 := fun t h1 => by
    rw [hZ, leadB, accL_end knotB [] t 20 n c (leafB x) hs hn hc hl h1]
  rw [← hZ]
  obtain ⟨N, hN⟩ : ∃ N, N = hs.length := ⟨_, rfl⟩
  rw [← hN] at h CS ⊢
  replace CS := Lib.hid CS
  have HU : Hid (∀ k, (Value.slice a0 N c0).ownBlock = some k → k < w.heap.size ∨ N = 0) := Lib.hid (fun k hk => by
    rcases Nat.eq_zero_or_pos N with h0 | h0
    · exact .inr h0
    · exact .inl (h.own_lt (by rw [← hN]; exact h0) hk))
  have HE := Lib.hid hend
  have HX := Lib.hid hx
  have H := Lib.hid h
  have HB := Lib.hid (And.intro hn (And.intro hc hl))
  have HN := Lib.hid hN
  clear h hx hn hc hl hend hZ hN
  go_enter Try.func55, Try.ntmps55
  go_wp2_with fail
  obtain ⟨w1, h1, k1, b1, s1⟩ := alloc_cb w 24 (bvs x)
  obtain ⟨w2, h2, k2, b2, s2⟩ := alloc_cb w1 92 [.int .i64 n, .int .i64 c, .slice a0 N c0]
  obtain ⟨w3, h3, k3, b3, s3⟩ := alloc_cb w2 24 (bvs (List.replicate 32 0))
  change Code.wp _ _ _ _ (((w.alloc (.cells (bvs x).toArray 24)).alloc (.cells [.int .i64 n, .int .i64 c, .slice a0 N c0].toArray 92)).alloc (.cells (bvs (List.replicate 32 0)).toArray 24))
  rw [← h1, ← h2, ← h3]
  rw [s1] at s2 k2
  rw [s2] at s3 k3
  have k2' := k2.fresh b3
  have hc0 := k2'.cell 0 _ rfl
  have hc1 := k2'.cell 1 _ rfl
  have hc2 := k2'.cell 2 _ rfl
  have B3 := Lib.hid ((b1.tr b2).tr b3)
  have K3 := Lib.hid k3
  have P3 := Lib.hid k2'
  have I3 := Lib.hid ((k1.fresh b2).fresh b3)
  have S3 := Lib.hid s3
  clear k2' h1 h2 h3 k1 k2 k3 b1 b2 b3 s1 s2 s3
  go_step3
  go_wp2_with fail
  refine (CS.out _).mono ?_
  rintro e w4 ⟨rfl, rfl⟩
  clear hc0 hc1
  go_wp2_with (with_reducible refine stopAt 30 ?_)
  refine Stop.go ?_
  refine wpList_load_agg rfl 24 (.tmp 2) rfl (⟨w.heap.size, 0, none⟩) rfl (bvs x) _ ((At.block I3.out).load) Try.underlying24 rfl (by rw [bvs_length, HX.out]; exact infoHash) ?_
  clear hc2
  go_wp2_with fail
  refine (leaf_any _ x HX.out).mono ?_
  rintro e w5 ⟨rfl, b5⟩
  have B5 := Lib.hid (B3.out.tr b5)
  have K5 := Lib.hid (K3.out.fresh b5)
  have P5 := Lib.hid (P3.out.fresh b5)
  have S5 : Hid (w.heap.size + 3 ≤ w5.heap.size) := Lib.hid (by have := b5.size; have := S3.out; omega)
  clear b5 B3 K3 P3 I3 S3
  go_wp2_with (with_reducible refine stopStore 24 ?_)
  refine Stop.go ?_
  refine wpList_store_var rfl 24 (.tmp 8) (.tmp 31) rfl w5.heap.size _ rfl _ (bvs (leafB x)) rfl (heap_alloc_new w5 _) (by simp [leafB_length x]) (bvs_one _) (by rw [bvs_length, leafB_length x]; exact infoHash) ?_
  intro w6 kw6 ow6
  have bw6 : Below w5.heap.size w5 w6 := Below.only ((Below.refl _ w5).alloc (Nat.le_refl _) _) ow6 (Nat.le_refl _)
  replace kw6 : CB w6 24 w5.heap.size (bvs (leafB x)) := kw6
  clear ow6
  obtain ⟨G, hG⟩ : ∃ G, G = w5.heap.size := ⟨_, rfl⟩
  have S6 : Hid (w.heap.size + 3 ≤ G ∧ G + 1 ≤ w6.heap.size) := Lib.hid ⟨by rw [hG]; exact S5.out, by rw [hG]; exact kw6.lt⟩
  have B6 := Lib.hid (B5.out.tr bw6)
  have K6 := Lib.hid (K5.out.fresh bw6)
  have P6 := Lib.hid (P5.out.fresh bw6)
  rw [← hG] at kw6 ⊢
  have G6 := Lib.hid kw6
  have R6 := Lib.hid (H.out.fresh B6.out)
  clear bw6 kw6 hG K5 P5 B5 S5
  have hc2 := P6.out.cell 2 _ rfl
  go_wp2_with fail
  clear hc2
  go_step3
  go_wp2_with fail
  have hS : Hid (CB w6.drew 92 (w.heap.size + 1) [.int .i64 n, .int .i64 c, .slice a0 N c0]) := Lib.hid P6.out
  refine pl_start 6 rfl (fun w' => CB w' 92 (w.heap.size + 1) [.int .i64 n, .int .i64 c, .slice a0 N c0]) (by kernel_rfl) ?_
  refine pl_take (i := 0) 34 rfl rfl rfl (by kernel_rfl) (by kernel_rfl) (by kernel_rfl) (by simp [Act.put]) hS.out ?_
  apply Exists.intro
  refine And.intro (fun w' hS' => ?_) ?_
  · go_wp2
    exact ⟨trivial, rfl⟩
  refine pl_take (i := 1) 35 rfl rfl rfl (by kernel_rfl) (by kernel_rfl) (by kernel_rfl) (by simp [Act.put]) hS.out ?_
  apply Exists.intro
  refine And.intro (fun w' hS' => ?_) ?_
  · have hc := hS'.cell 0 _ rfl
    clear hS'
    go_wp2
    exact ⟨trivial, rfl⟩
  refine pl_take (i := 2) 36 rfl rfl rfl (by kernel_rfl) (by kernel_rfl) (by kernel_rfl) (by simp [Act.put]) hS.out ?_
  apply Exists.intro
  refine And.intro (fun w' hS' => ?_) ?_
  · go_wp2
    exact ⟨trivial, rfl⟩
  refine pl_take (i := 3) 37 rfl rfl rfl (by kernel_rfl) (by kernel_rfl) (by kernel_rfl) (by simp [Act.put]) hS.out ?_
  apply Exists.intro
  refine And.intro (fun w' hS' => ?_) ?_
  · have hc := hS'.cell 1 _ rfl
    clear hS'
    go_wp2
    exact ⟨trivial, rfl⟩
  refine pl_take (i := 4) 10 rfl rfl rfl (by kernel_rfl) (by kernel_rfl) (by kernel_rfl) (by simp [Act.put]) hS.out ?_
  apply Exists.intro
  refine And.intro (fun w' hS' => ?_) ?_
  · go_wp2
    exact ⟨trivial, rfl⟩
  refine pl_take (i := 5) 11 rfl rfl rfl (by kernel_rfl) (by kernel_rfl) (by kernel_rfl) (by simp [Act.put]) hS.out ?_
  apply Exists.intro
  refine And.intro (fun w' hS' => ?_) ?_
  · go_wp2
    exact ⟨trivial, rfl⟩
  refine pl_done (by kernel_rfl) ?_
  clear hS
  obtain ⟨w7, hw7⟩ : ∃ w7, w7 = w6.drew := ⟨_, rfl⟩
  rw [← hw7]
  have S7 : Hid (w.heap.size + 3 ≤ G ∧ G + 1 ≤ w7.heap.size) := Lib.hid (by rw [hw7]; exact S6.out)
  have B7 : Hid (Below w.heap.size w w7) := Lib.hid (by rw [hw7]; exact B6.out.drew)
  have K7 : Hid (CB w7 24 (w.heap.size + 1 + 1) (bvs (List.replicate 32 0))) := Lib.hid (by rw [hw7]; exact K6.out)
  have P7 : Hid (CB w7 92 (w.heap.size + 1) [.int .i64 n, .int .i64 c, .slice a0 N c0]) := Lib.hid (by rw [hw7]; exact P6.out)
  have G7 : Hid (CB w7 24 G (bvs (leafB x))) := Lib.hid (by rw [hw7]; exact G6.out)
  have R7 : Hid (Hs w7 (.slice a0 N c0) hs) := Lib.hid (by rw [hw7]; exact R6.out.fresh (Below.refl _ _).drew)
  clear hw7 S6 B6 K6 P6 G6 R6
  go_wp2
  go_loopw [9, 10, 11] (fun v9 v10 v11 wr => ∃ t p q : Nat, p = n / 2 ^ t ∧ q = cnt c t ∧ v10 = .int .i64 (p : Int) ∧ v11 = .int .i64 (q : Int) ∧ Hs wr v9 (hs.drop (accS n c t)) ∧
      CB wr 24 (w.heap.size + 1 + 1) (bvs (List.replicate 32 0)) ∧ CB wr 92 (w.heap.size + 1) [.int .i64 n, .int .i64 c, .slice a0 N c0] ∧
      CB wr 24 G (bvs (accL knotB [] n c (leafB x) hs t).1) ∧ (∀ k, v9.ownBlock = some k → k < w.heap.size ∨ N = 0) ∧ G + 1 ≤ wr.heap.size ∧ Below w.heap.size w wr)
    (fun _ _ v _ => (intOf v).toNat)
  case atStart => exact ⟨0, n, c, by simp, rfl, rfl, rfl, R7.out, K7.out, P7.out, G7.out, HU.out, S7.out.2, B7.out⟩
  case round =>
    obtain ⟨t, p, q, hp, hq, rfl, rfl, hr, hk, hpp, hg, ha, hz, hb⟩ := hrel
    have hpq : p < q := by rw [hp, hq]; exact cnt_div n c t HB.out.1
    have hqc : q ≤ c := by rw [hq]; exact cnt_le c t (by have := HB.out.1; omega)
    have bp : (p : Int) ≤ 1048576 := by have := HB.out.2.1; omega
    have bq : (q : Int) ≤ 1048576 := by have := HB.out.2.1; omega
    have h32 := accL_h32 (n := n) (c := c) (hs := hs) (leafB_length x) t
    obtain ⟨A, hA⟩ : ∃ A, A = (accL knotB [] n c (leafB x) hs t).1 := ⟨_, rfl⟩
    rw [← hA] at hg h32
    obtain ⟨m, hm⟩ : ∃ m, m = (hs.drop (accS n c t)).length := ⟨_, rfl⟩
    obtain ⟨a9, c9, rfl⟩ := hr.slice' hm.symm
    have HR := Lib.hid hr
    have HK := Lib.hid hk
    have HPP := Lib.hid hpp
    have HG := Lib.hid hg
    have HA := Lib.hid ha
    have HZ := Lib.hid hz
    have HW := Lib.hid hb
    have HPQ := Lib.hid (And.intro hp (And.intro hq (And.intro hpq hqc)))
    have HAA := Lib.hid (And.intro hA h32)
    have HM := Lib.hid hm
    clear hr hk hpp hg ha hz hb hp hq hqc hA h32 hm
    by_cases h1 : q ≤ 1
    · have j1 : (q : Int) ≤ 1 := by omega
      have hzz := HE.out t (by rw [← HPQ.out.2.1]; exact h1)
      rw [← HAA.out.1] at hzz
      have HZZ := Lib.hid hzz
      have hS : Hid (CB wr.drew 92 (w.heap.size + 1) [.int .i64 n, .int .i64 c, .slice a0 N c0]) := Lib.hid HPP.out
      clear hpq hzz h1
      go_wp2_with fail
      refine pl_start 6 rfl (fun w' => CB w' 92 (w.heap.size + 1) [.int .i64 n, .int .i64 c, .slice a0 N c0]) (by kernel_rfl) ?_
      refine pl_take (i := 0) 69 rfl rfl rfl (by kernel_rfl) (by kernel_rfl) (by kernel_rfl) (by simp [Act.put]) hS.out ?_
      apply Exists.intro
      refine And.intro (fun w' hS' => ?_) ?_
      · go_wp2
        exact ⟨trivial, rfl⟩
      refine pl_take (i := 1) 70 rfl rfl rfl (by kernel_rfl) (by kernel_rfl) (by kernel_rfl) (by simp [Act.put]) hS.out ?_
      apply Exists.intro
      refine And.intro (fun w' hS' => ?_) ?_
      · have hc := hS'.cell 1 _ rfl
        clear hS'
        go_wp2
        exact ⟨trivial, rfl⟩
      refine pl_take (i := 2) 71 rfl rfl rfl (by kernel_rfl) (by kernel_rfl) (by kernel_rfl) (by simp [Act.put]) hS.out ?_
      apply Exists.intro
      refine And.intro (fun w' hS' => ?_) ?_
      · go_wp2
        exact ⟨trivial, rfl⟩
      refine pl_heavy (i := 3) rfl (by kernel_rfl) ?_
      go_wp2_with fail
      refine (top_any _ c (.slice (some ⟨G, 0, none⟩) 32 32) A (by have := HB.out.2.1; omega) (CB.rd32 (show CB wr.drew 24 G (bvs A) from HG.out) HAA.out.2) (by rw [HAA.out.2]; decide)).mono ?_
      rintro e w8 ⟨rfl, b8⟩
      rw [← HZZ.out]
      have B8 := Lib.hid (HW.out.drew.tr b8)
      have S8 := Lib.hid (hS.out.fresh b8)
      have K8 := Lib.hid ((show CB wr.drew 24 (w.heap.size + 1 + 1) (bvs (List.replicate 32 0)) from HK.out).fresh b8)
      clear b8 hS
      go_wp2
      refine And.intro S8.out ?_
      refine pl_heavy (i := 4) rfl (by kernel_rfl) ?_
      refine wpList_store_var rfl 24 (.tmp 4) (.tmp 72) rfl (w.heap.size + 1 + 1) _ rfl _ (bvs Z) rfl K8.out (by simp [hZl.out]) (bvs_one _) (by rw [bvs_length, hZl.out]; exact infoHash) ?_
      intro wf kf of
      have BF : Hid (Below w.heap.size w wf) := Below.only B8.out of (by omega)
      have KF := Lib.hid kf
      clear kf
      have SF : Hid (CB wf 92 (w.heap.size + 1) [.int .i64 n, .int .i64 c, .slice a0 N c0]) := Lib.hid (S8.out.only of (by omega))
      clear of
      go_wp2
      refine And.intro SF.out ?_
      refine pl_heavy (i := 5) rfl (by kernel_rfl) ?_
      go_wp2
      refine And.intro SF.out ?_
      refine pl_done (by kernel_rfl) ?_
      go_wp2
      rw [Exit.noGoto_ret]
      exact bodyPost_ret (results_cellT rfl _ _ (w.heap.size + 1 + 1) _ _ _ _ rfl KF.out Try.underlying24 rfl (by simp [hZl.out, infoHash])) rfl ⟨rfl, BF.out⟩
    · have j1 : ¬ ((q : Int) ≤ 1) := by omega
      have jx := bits_xor1 p (by have := HB.out.2.1; omega)
      obtain ⟨b, hb⟩ : ∃ b, b = bes p := ⟨_, rfl⟩
      rw [← hb] at jx
      have HBs := Lib.hid hb
      have jp := tdiv2 p
      have jq : ((q : Int) + 1).tdiv 2 = (((q + 1) / 2 : Nat) : Int) := by have := tdiv2 (q + 1); rw [← this]; rfl
      clear hb
      by_cases h2 : b < q
      · have j2 : ¬ ((q : Int) ≤ (b : Int)) := by omega
        have ja := bits_and1 p (by have := HB.out.2.1; omega)
        have hml : accS n c t < hs.length := by
          rw [HB.out.2.2]
          exact accS_lt t 20 n c HB.out.1 HB.out.2.1 (by rw [← HPQ.out.1, ← HPQ.out.2.1, ← HBs.out]; exact h2)
        have hm0 : 0 < m := by rw [HM.out, List.length_drop]; omega
        obtain ⟨y, hy⟩ : ∃ y, (hs.drop (accS n c t))[0]? = some y := ⟨_, List.getElem?_eq_getElem (by rw [← HM.out]; exact hm0)⟩
        obtain ⟨ad, c9', he⟩ := HR.out.isSome HM.out.symm hm0
        simp only [Value.slice.injEq, true_and] at he
        obtain ⟨rfl, rfl⟩ := he
        have hy32 := HR.out.1.get hy
        have HY := Lib.hid (And.intro hy hy32)
        have jm : (1 : Int) ≤ (m : Int) := by omega
        have jc : (m : Int) ≤ (c9 : Int) := by
          rcases HR.out.2.2 with ⟨he, _⟩ | ⟨ad', c', he, h1, _, _⟩
          · cases he
          · simp only [Value.slice.injEq, true_and] at he
            obtain ⟨_, _, rfl⟩ := he
            rw [← HM.out] at h1
            omega
        have H2 := Lib.hid h2
        have HML := Lib.hid hml
        have HM0 := Lib.hid hm0
        clear hy hy32 h2 hpq hml hm0
        rcases Nat.mod_two_eq_zero_or_one p with hpar | hpar
        · rw [hpar] at ja
          have HPAR := Lib.hid hpar
          clear hpar
          have hS : Hid (CB wr.drew 24 G (bvs A) ∧ Hs wr.drew (.slice (some ad) m c9) (hs.drop (accS n c t))) := Lib.hid ⟨HG.out, HR.out.fresh (Below.refl _ _).drew⟩
          go_wp2_with fail
          refine pf_start 9 rfl (fun w' => CB w' 24 G (bvs A) ∧ Hs w' (.slice (some ad) m c9) (hs.drop (accS n c t))) (fun i => decide (7 ≤ i)) (by kernel_rfl) ?_
          refine pf_take (i := 0) 43 rfl rfl rfl (by kernel_rfl) (by kernel_rfl) (by kernel_rfl) (by kernel_rfl) (by kernel_rfl) (by simp [Act.put]) hS.out ?_
          apply Exists.intro
          refine And.intro (fun w' hS' => ?_) ?_
          · refine wpList_load_agg rfl 24 (.tmp 8) rfl (⟨G, 0, none⟩) rfl (bvs A) _ ((At.block hS'.1).load) Try.underlying24 rfl (by rw [bvs_length, HAA.out.2]; exact infoHash) ?_
            clear hS'
            go_wp2
            exact ⟨trivial, rfl⟩
          refine pf_take (i := 1) 44 rfl rfl rfl (by kernel_rfl) (by kernel_rfl) (by kernel_rfl) (by kernel_rfl) (by kernel_rfl) (by simp [Act.put]) hS.out ?_
          apply Exists.intro
          refine And.intro (fun w' hS' => ?_) ?_
          · clear hS'
            go_wp2
            exact ⟨trivial, rfl⟩
          refine pf_take (i := 2) 45 rfl rfl rfl (by kernel_rfl) (by kernel_rfl) (by kernel_rfl) (by kernel_rfl) (by kernel_rfl) (by simp [Act.put]) hS.out ?_
          apply Exists.intro
          refine And.intro (fun w' hS' => ?_) ?_
          · clear hS'
            go_wp2
            exact ⟨trivial, rfl⟩
          refine pf_take (i := 3) 46 rfl rfl rfl (by kernel_rfl) (by kernel_rfl) (by kernel_rfl) (by kernel_rfl) (by kernel_rfl) (by simp [Act.put]) hS.out ?_
          apply Exists.intro
          refine And.intro (fun w' hS' => ?_) ?_
          · refine wpList_load_agg rfl 24 (.tmp 45) rfl (ad) rfl (bvs y) _ (by have := hS'.2.elem' HY.out.1; simpa [Addr.add] using this) Try.underlying24 rfl (by rw [bvs_length, HY.out.2]; exact infoHash) ?_
            clear hS'
            go_wp2
            exact ⟨trivial, rfl⟩
          refine pf_free (i := 5) 48 rfl rfl rfl (by kernel_rfl) (by kernel_rfl) (by kernel_rfl) rfl (by simp [Act.put]) (fun _ => hS.out) ?_
          apply Exists.intro
          refine And.intro (fun w' => ?_) ?_
          · go_wp2
            exact ⟨trivial, rfl⟩
          obtain ⟨X, hX⟩ : ∃ X : Option Addr, X = if c9 = 1 then some ad else (some ad).map (·.add (1 * 32)) := ⟨_, rfl⟩
          have hX' := Lib.hid hX
          clear hX
          refine pf_free (i := 6) 49 rfl rfl rfl (by kernel_rfl) (by kernel_rfl) (by kernel_rfl) rfl (by simp [Act.put]) (fun _ => hS.out) ?_
          apply Exists.intro
          refine And.intro (fun w' => ?_) ?_
          · skip
            refine wpList_slice rfl 22 (.tmp 48) _ _ _ rfl (.slice X _ _) (by rw [hX'.out]; exact run_slice_from Try.underlying22 infoHash (some ad) m c9 1 (by omega)) ?_
            go_wp2
            exact ⟨trivial, rfl⟩
          refine pf_heavy (i := 4) rfl (by kernel_rfl) ?_
          go_wp2_with fail
          refine (knot_any _ A y HAA.out.2 HY.out.2).mono ?_
          rintro e w8 ⟨rfl, b8⟩
          have B8 : Hid (Below w.heap.size w w8) := HW.out.drew.tr b8
          have bb : Below wr.heap.size wr w8 := (Below.refl _ wr).drew.tr b8
          have S8 := Lib.hid (And.intro (hS.out.1.fresh b8) (hS.out.2.fresh b8))
          have K8 := Lib.hid (HK.out.fresh bb)
          have P8 := Lib.hid (HPP.out.fresh bb)
          have Z8 : Hid (G + 1 ≤ w8.heap.size) := Lib.hid (Nat.le_trans HZ.out bb.size)
          clear b8 bb hS
          go_wp2
          refine And.intro S8.out ?_
          refine pf_last (i := 7) rfl (by kernel_rfl) (by kernel_rfl) ?_
          refine wpList_store_var rfl 24 (.tmp 8) (.tmp 47) rfl G _ rfl _ (bvs (knotB A y)) rfl S8.out.1 (by simp [HAA.out.2, knotB_length]) (bvs_one _) (by rw [bvs_length, knotB_length]; exact infoHash) ?_
          intro w9 k9 o9
          have B9 : Hid (Below w.heap.size w w9) := Lib.hid (Below.only B8.out o9 (by have := S7.out; omega))
          have K9 := Lib.hid (K8.out.only o9 (by have := S7.out; omega))
          have P9 := Lib.hid (P8.out.only o9 (by have := S7.out; omega))
          have G9 : Hid (CB w9 24 G (bvs (knotB A y))) := Lib.hid k9
          have Z9 : Hid (G + 1 ≤ w9.heap.size) := Lib.hid (by rw [o9.size]; exact Z8.out)
          have R9 : Hid (Hs w9 (.slice X (m - 1) (c9 - 1)) (hs.drop (accS n c (t + 1))) ∧ ∀ k, (Value.slice X (m - 1) (c9 - 1)).ownBlock = some k → k < w.heap.size ∨ N = 0) := Lib.hid (by
            have hown : ∀ k, (Value.slice X (m - 1) (c9 - 1)).ownBlock = some k → k < w.heap.size ∨ N = 0 := fun k hk => HA.out k (by rw [hX'.out] at hk; exact ownBlock_part hk)
            refine ⟨?_, hown⟩
            have h1 := (S8.out.2).part HM.out 1 (m - 1) (by have := HM0.out; omega)
            rw [← hX'.out, List.drop_drop, List.take_of_length_le (by rw [List.length_drop]; have := HM.out; rw [List.length_drop] at this; omega)] at h1
            rw [accS, if_pos (by rw [← HPQ.out.1, ← HPQ.out.2.1, ← HBs.out]; exact H2.out), Nat.add_comm]
            rw [Nat.add_comm]
            refine h1.only o9 (fun e => ?_)
            rcases hown G e with h2 | h2
            · have := S7.out; omega
            · have := HML.out; have := HN.out; omega)
          have A9 : Hid ((accL knotB [] n c (leafB x) hs (t + 1)).1 = knotB A y) := Lib.hid (by
            rw [accL, stepL, if_pos (by rw [← HPQ.out.1, ← HPQ.out.2.1, ← HBs.out]; exact H2.out), ← HPQ.out.1, if_neg (by have := HPAR.out; omega), ← HAA.out.1, accL_rest]
            have h1 := HY.out.1
            rw [List.headD_eq_head?_getD, List.head?_eq_getElem?, h1]
            rfl)
          clear k9 o9 S8 B8 K8 P8 Z8
          go_wp2
          refine pf_last (i := 8) rfl (by kernel_rfl) (by kernel_rfl) ?_
          go_wp2
          refine pf_done (by kernel_rfl) ?_
          go_wp2
          go_roundw
          case rel => exact ⟨t + 1, p / 2, (q + 1) / 2, by rw [div_step, ← HPQ.out.1], by rw [cnt, ← HPQ.out.2.1], by go_num, by go_num, R9.out.1, K9.out, P9.out, by rw [A9.out]; exact G9.out, R9.out.2, Z9.out, B9.out⟩
          case measure => simp only [intOf]; have := H2.out; omega
        · rw [hpar] at ja
          have HPAR := Lib.hid hpar
          clear hpar
          have hS : Hid (CB wr.drew 24 G (bvs A) ∧ Hs wr.drew (.slice (some ad) m c9) (hs.drop (accS n c t))) := Lib.hid ⟨HG.out, HR.out.fresh (Below.refl _ _).drew⟩
          go_wp2_with fail
          refine pf_start 9 rfl (fun w' => CB w' 24 G (bvs A) ∧ Hs w' (.slice (some ad) m c9) (hs.drop (accS n c t))) (fun i => decide (7 ≤ i)) (by kernel_rfl) ?_
          refine pf_take (i := 0) 62 rfl rfl rfl (by kernel_rfl) (by kernel_rfl) (by kernel_rfl) (by kernel_rfl) (by kernel_rfl) (by simp [Act.put]) hS.out ?_
          apply Exists.intro
          refine And.intro (fun w' hS' => ?_) ?_
          · clear hS'
            go_wp2
            exact ⟨trivial, rfl⟩
          refine pf_take (i := 1) 63 rfl rfl rfl (by kernel_rfl) (by kernel_rfl) (by kernel_rfl) (by kernel_rfl) (by kernel_rfl) (by simp [Act.put]) hS.out ?_
          apply Exists.intro
          refine And.intro (fun w' hS' => ?_) ?_
          · clear hS'
            go_wp2
            exact ⟨trivial, rfl⟩
          refine pf_take (i := 2) 64 rfl rfl rfl (by kernel_rfl) (by kernel_rfl) (by kernel_rfl) (by kernel_rfl) (by kernel_rfl) (by simp [Act.put]) hS.out ?_
          apply Exists.intro
          refine And.intro (fun w' hS' => ?_) ?_
          · refine wpList_load_agg rfl 24 (.tmp 63) rfl (ad) rfl (bvs y) _ (by have := hS'.2.elem' HY.out.1; simpa [Addr.add] using this) Try.underlying24 rfl (by rw [bvs_length, HY.out.2]; exact infoHash) ?_
            clear hS'
            go_wp2
            exact ⟨trivial, rfl⟩
          refine pf_take (i := 3) 65 rfl rfl rfl (by kernel_rfl) (by kernel_rfl) (by kernel_rfl) (by kernel_rfl) (by kernel_rfl) (by simp [Act.put]) hS.out ?_
          apply Exists.intro
          refine And.intro (fun w' hS' => ?_) ?_
          · refine wpList_load_agg rfl 24 (.tmp 8) rfl (⟨G, 0, none⟩) rfl (bvs A) _ ((At.block hS'.1).load) Try.underlying24 rfl (by rw [bvs_length, HAA.out.2]; exact infoHash) ?_
            clear hS'
            go_wp2
            exact ⟨trivial, rfl⟩
          refine pf_free (i := 5) 67 rfl rfl rfl (by kernel_rfl) (by kernel_rfl) (by kernel_rfl) rfl (by simp [Act.put]) (fun _ => hS.out) ?_
          apply Exists.intro
          refine And.intro (fun w' => ?_) ?_
          · go_wp2
            exact ⟨trivial, rfl⟩
          obtain ⟨X, hX⟩ : ∃ X : Option Addr, X = if c9 = 1 then some ad else (some ad).map (·.add (1 * 32)) := ⟨_, rfl⟩
          have hX' := Lib.hid hX
          clear hX
          refine pf_free (i := 6) 68 rfl rfl rfl (by kernel_rfl) (by kernel_rfl) (by kernel_rfl) rfl (by simp [Act.put]) (fun _ => hS.out) ?_
          apply Exists.intro
          refine And.intro (fun w' => ?_) ?_
          · skip
            refine wpList_slice rfl 22 (.tmp 67) _ _ _ rfl (.slice X _ _) (by rw [hX'.out]; exact run_slice_from Try.underlying22 infoHash (some ad) m c9 1 (by omega)) ?_
            go_wp2
            exact ⟨trivial, rfl⟩
          refine pf_heavy (i := 4) rfl (by kernel_rfl) ?_
          go_wp2_with fail
          refine (knot_any _ y A HY.out.2 HAA.out.2).mono ?_
          rintro e w8 ⟨rfl, b8⟩
          have B8 : Hid (Below w.heap.size w w8) := HW.out.drew.tr b8
          have bb : Below wr.heap.size wr w8 := (Below.refl _ wr).drew.tr b8
          have S8 := Lib.hid (And.intro (hS.out.1.fresh b8) (hS.out.2.fresh b8))
          have K8 := Lib.hid (HK.out.fresh bb)
          have P8 := Lib.hid (HPP.out.fresh bb)
          have Z8 : Hid (G + 1 ≤ w8.heap.size) := Lib.hid (Nat.le_trans HZ.out bb.size)
          clear b8 bb hS
          go_wp2
          refine And.intro S8.out ?_
          refine pf_last (i := 7) rfl (by kernel_rfl) (by kernel_rfl) ?_
          refine wpList_store_var rfl 24 (.tmp 8) (.tmp 66) rfl G _ rfl _ (bvs (knotB y A)) rfl S8.out.1 (by simp [HAA.out.2, knotB_length]) (bvs_one _) (by rw [bvs_length, knotB_length]; exact infoHash) ?_
          intro w9 k9 o9
          have B9 : Hid (Below w.heap.size w w9) := Lib.hid (Below.only B8.out o9 (by have := S7.out; omega))
          have K9 := Lib.hid (K8.out.only o9 (by have := S7.out; omega))
          have P9 := Lib.hid (P8.out.only o9 (by have := S7.out; omega))
          have G9 : Hid (CB w9 24 G (bvs (knotB y A))) := Lib.hid k9
          have Z9 : Hid (G + 1 ≤ w9.heap.size) := Lib.hid (by rw [o9.size]; exact Z8.out)
          have R9 : Hid (Hs w9 (.slice X (m - 1) (c9 - 1)) (hs.drop (accS n c (t + 1))) ∧ ∀ k, (Value.slice X (m - 1) (c9 - 1)).ownBlock = some k → k < w.heap.size ∨ N = 0) := Lib.hid (by
            have hown : ∀ k, (Value.slice X (m - 1) (c9 - 1)).ownBlock = some k → k < w.heap.size ∨ N = 0 := fun k hk => HA.out k (by rw [hX'.out] at hk; exact ownBlock_part hk)
            refine ⟨?_, hown⟩
            have h1 := (S8.out.2).part HM.out 1 (m - 1) (by have := HM0.out; omega)
            rw [← hX'.out, List.drop_drop, List.take_of_length_le (by rw [List.length_drop]; have := HM.out; rw [List.length_drop] at this; omega)] at h1
            rw [accS, if_pos (by rw [← HPQ.out.1, ← HPQ.out.2.1, ← HBs.out]; exact H2.out), Nat.add_comm]
            rw [Nat.add_comm]
            refine h1.only o9 (fun e => ?_)
            rcases hown G e with h2 | h2
            · have := S7.out; omega
            · have := HML.out; have := HN.out; omega)
          have A9 : Hid ((accL knotB [] n c (leafB x) hs (t + 1)).1 = knotB y A) := Lib.hid (by
            rw [accL, stepL, if_pos (by rw [← HPQ.out.1, ← HPQ.out.2.1, ← HBs.out]; exact H2.out), ← HPQ.out.1, if_pos HPAR.out, ← HAA.out.1, accL_rest]
            have h1 := HY.out.1
            rw [List.headD_eq_head?_getD, List.head?_eq_getElem?, h1]
            rfl)
          clear k9 o9 S8 B8 K8 P8 Z8
          go_wp2
          refine pf_last (i := 8) rfl (by kernel_rfl) (by kernel_rfl) ?_
          go_wp2
          refine pf_done (by kernel_rfl) ?_
          go_wp2
          go_roundw
          case rel => exact ⟨t + 1, p / 2, (q + 1) / 2, by rw [div_step, ← HPQ.out.1], by rw [cnt, ← HPQ.out.2.1], by go_num, by go_num, R9.out.1, K9.out, P9.out, by rw [A9.out]; exact G9.out, R9.out.2, Z9.out, B9.out⟩
          case measure => simp only [intOf]; have := H2.out; omega
      · have j2 : (q : Int) ≤ (b : Int) := by omega
        have hns : ¬ bes (n / 2 ^ t) < cnt c t := by rw [← HPQ.out.1, ← HPQ.out.2.1, ← HBs.out]; exact h2
        have R9 : Hid (Hs wr (.slice a9 m c9) (hs.drop (accS n c (t + 1)))) := Lib.hid (by
          rw [accS, if_neg hns]
          exact HR.out)
        have A9 : Hid ((accL knotB [] n c (leafB x) hs (t + 1)).1 = A) := Lib.hid (by
          rw [accL, stepL, if_neg hns, HAA.out.1])
        have H1 := Lib.hid h1
        clear hns hpq
        go_wp2
        go_roundw
        case rel => exact ⟨t + 1, p / 2, (q + 1) / 2, by rw [div_step, ← HPQ.out.1], by rw [cnt, ← HPQ.out.2.1], by go_num, by go_num, R9.out, HK.out, HPP.out, by rw [A9.out]; exact HG.out, HA.out, HZ.out, HW.out⟩
        case measure => simp only [intOf]; have := H1.out; omega

end Go.Proofs.Ytbabjepblakboaa

/- Merkle: whether a path checks: the walk. -/
namespace Go.Proofs.Ytbabjepblakboaa
set_option linter.unusedVariables false
set_option linter.unusedSimpArgs false
open Go.RowKit Go.Lib

def zero32B : Bs := List.replicate 32 0
theorem zero32B_length : zero32B.length = 32 := by simp [zero32B]

def leadR (n c : Int) (x : Bs) (hs : List Bs) : Bs := if mayB n c hs then leadB n.toNat c.toNat x hs else zero32B
def leadE (n c : Int) (hs : List Bs) : Int := if mayB n c hs then 0 else 21
def checkE (root x : Bs) (n c : Int) (hs : List Bs) : Int := if mayB n c hs && leadB n.toNat c.toNat x hs == root then 0 else 21

theorem leadR_length (n c : Int) (x : Bs) (hs : List Bs) : (leadR n c x hs).length = 32 := by
  unfold leadR
  split
  · exact topB_length _ _
  · exact zero32B_length

theorem mlead_any (w : World) (x : Bs) (n c : Int) (v : Value) (hs : List Bs) (hx : x.length = 32) (h : Hs w v hs) :
    Calls Try.prog 55 #[.agg (bvs x).toArray, .agg #[.int .i64 n, .int .i64 c, v]] w fun e w' => e = .returned (.tuple #[.agg (bvs (leadR n c x hs)).toArray, .int .i64 (leadE n c hs)]) ∧ Below w.heap.size w w' := by
  unfold leadR leadE
  cases hm : mayB n c hs with
  | false =>
    exact mlead_no w x n c v hs h hm
  | true =>
    obtain ⟨a, b, rfl, rfl, h1, h2, h3⟩ := mayB_ok hm
    exact mlead_ok w x a b v hs hx h h1 h2 h3

theorem hash_ne (w : World) (xs ys : List UInt8) (hx : xs.length = 32) (hy : ys.length = 32) :
    (binOp .neq 24 (.agg (bvs xs).toArray) (.agg (bvs ys).toArray)).run Try.prog w = .ok (.bool (xs != ys)) w := by
  have h := hash_eq w xs ys hx hy
  rw [run_eql_struct] at h
  rw [run_neq_struct]
  revert h
  generalize (Op.equalIn 10000 24 (.agg (bvs xs).toArray) (.agg (bvs ys).toArray)).run Try.prog w = r
  intro h
  cases r with
  | ok b w1 =>
    simp only [Result.andThen_ok, Sem.run_pure, Result.ok.injEq, Value.bool.injEq] at h
    obtain ⟨rfl, rfl⟩ := h
    simp [bne]
  | halt x w1 => cases h

set_option maxRecDepth 100000 in
set_option maxHeartbeats 1000000 in
theorem mcheck_any (w : World) (r x : Bs) (n c : Int) (v : Value) (hs : List Bs) (hr : r.length = 32) (hx : x.length = 32) (h : Hs w v hs) :
    Calls Try.prog 56 #[.agg (bvs r).toArray, .agg (bvs x).toArray, .agg #[.int .i64 n, .int .i64 c, v]] w fun e w' => e = .returned (.int .i64 (checkE r x n c hs)) ∧ Below w.heap.size w w' := by
  obtain ⟨a0, c0, rfl⟩ := h.slice
  obtain ⟨N, hN⟩ : ∃ N, N = hs.length := ⟨_, rfl⟩
  rw [← hN] at h ⊢
  obtain ⟨L, hL⟩ : ∃ L, L = leadR n c x hs := ⟨_, rfl⟩
  obtain ⟨E, hE⟩ : ∃ E, E = leadE n c hs := ⟨_, rfl⟩
  obtain ⟨C, hC⟩ : ∃ C, C = checkE r x n c hs := ⟨_, rfl⟩
  have CL := fun w0 h0 => mlead_any w0 x n c (.slice a0 N c0) hs hx h0
  rw [← hL, ← hE] at CL
  rw [← hC]
  have hLl : L.length = 32 := by rw [hL]; exact leadR_length _ _ _ _
  have hcase : E = 21 ∧ C = 21 ∨ E = 0 ∧ C = if L != r then 21 else 0 := by
    rw [hC, hE, hL]
    unfold checkE leadE leadR
    cases mayB n c hs with
    | false => left; simp
    | true =>
      right
      refine ⟨rfl, ?_⟩
      simp only [Bool.true_and, if_true]
      cases hb : leadB n.toNat c.toNat x hs == r <;> simp [bne, hb]
  replace CL := Lib.hid CL
  have H := Lib.hid h
  have HL := Lib.hid (And.intro hLl (And.intro hr hx))
  clear h hN hL hE hC hLl hr hx
  go_enter Try.func56, Try.ntmps56
  go_wp2_with (with_reducible refine stopAt 10 ?_)
  refine Stop.go ?_
  obtain ⟨w1, h1, k1, b1, s1⟩ := alloc_cb w 24 (bvs r)
  obtain ⟨w2, h2, k2, b2, s2⟩ := alloc_cb w1 24 (bvs x)
  obtain ⟨w3, h3, k3, b3, s3⟩ := alloc_cb w2 92 [.int .i64 n, .int .i64 c, .slice a0 N c0]
  change wpList _ _ _ _ _ (((w.alloc (.cells (bvs r).toArray 24)).alloc (.cells (bvs x).toArray 24)).alloc (.cells [.int .i64 n, .int .i64 c, .slice a0 N c0].toArray 92))
  rw [← h1, ← h2, ← h3]
  rw [s1] at s2 k2
  rw [s2] at s3 k3
  have R3 := Lib.hid ((k1.fresh b2).fresh b3)
  have I3 := Lib.hid (k2.fresh b3)
  have P3 := Lib.hid k3
  have B3 := Lib.hid ((b1.tr b2).tr b3)
  clear h1 h2 h3 k1 k2 k3 b1 b2 b3 s1 s2
  refine wpList_load_agg rfl 24 (.tmp 4) rfl (⟨w.heap.size + 1, 0, none⟩) rfl (bvs x) _ ((At.block I3.out).load) Try.underlying24 rfl (by rw [bvs_length, HL.out.2.2]; exact infoHash) ?_
  go_wp2_with (with_reducible refine stopAt 11 ?_)
  refine Stop.go ?_
  refine wpList_load_agg rfl 92 (.tmp 5) rfl ⟨w.heap.size + 1 + 1, 0, none⟩ rfl [.int .i64 n, .int .i64 c, .slice a0 N c0] _ (At.block P3.out).load Try.underlying92 rfl (by exact infoPath) ?_
  go_wp2_with fail
  refine (CL.out _ (H.out.fresh B3.out)).mono ?_
  rintro e w4 ⟨rfl, b4⟩
  have R4 := Lib.hid (R3.out.fresh b4)
  have B4 := Lib.hid (B3.out.tr b4)
  clear b4 R3 B3 I3 P3
  go_wp2_with (with_reducible refine stopStore 24 ?_)
  refine Stop.go ?_
  refine wpList_store_var rfl 24 (.tmp 7) (.tmp 13) rfl w4.heap.size _ rfl _ (bvs L) rfl (heap_alloc_new w4 _) (by simp [HL.out.1]) (bvs_one _) (by rw [bvs_length, HL.out.1]; exact infoHash) ?_
  intro w5 kw5 ow5
  have bw5 : Below w4.heap.size w4 w5 := Below.only ((Below.refl _ w4).alloc (Nat.le_refl _) _) ow5 (Nat.le_refl _)
  replace kw5 : CB w5 24 w4.heap.size (bvs L) := kw5
  clear ow5
  have R5 := Lib.hid (R4.out.fresh bw5)
  have B5 := Lib.hid (B4.out.tr bw5)
  have L5 := Lib.hid kw5
  clear bw5 kw5 R4 B4
  rcases hcase with ⟨rfl, rfl⟩ | ⟨rfl, hc⟩
  · go_wp2
    go_ret
    exact ⟨rfl, B5.out⟩
  · have HC := Lib.hid hc
    clear hc
    go_wp2_with (with_reducible refine stopAt 18 ?_)
    refine Stop.go ?_
    refine wpList_unguard' rfl ?_
    refine wpList_load_agg rfl 24 (.tmp 7) rfl (⟨w4.heap.size, 0, none⟩) rfl (bvs L) _ ((At.block L5.out).load) Try.underlying24 rfl (by rw [bvs_length, HL.out.1]; exact infoHash) ?_
    go_wp2_with (with_reducible refine stopAt 19 ?_)
    refine Stop.go ?_
    refine wpList_unguard' rfl ?_
    refine wpList_load_agg rfl 24 (.tmp 3) rfl (⟨w.heap.size, 0, none⟩) rfl (bvs r) _ ((At.block R5.out).load) Try.underlying24 rfl (by rw [bvs_length, HL.out.2.1]; exact infoHash) ?_
    go_wp2_with (with_reducible refine stopAt 20 ?_)
    refine Stop.go ?_
    refine wpList_unguard' rfl ?_
    refine wpList_bin rfl .neq 24 24 (.tmp 18) (.tmp 19) rfl (.bool (L != r)) (eqGuard_agg _ _ _ _ _ _ _ (by kernel_rfl)) (hash_ne w5 L r HL.out.1 HL.out.2.1) ?_
    cases hb : (L != r)
    · rw [hb] at HC
      go_wp2
      go_ret
      exact ⟨by rw [HC.out]; rfl, B5.out⟩
    · rw [hb] at HC
      go_wp2
      go_ret
      exact ⟨by rw [HC.out]; rfl, B5.out⟩
end Go.Proofs.Ytbabjepblakboaa

/- What the arguments of laws read as: hashes, lists of hashes, paths. -/
namespace Go.Proofs.Ytbabjepblakboaa
set_option linter.unusedVariables false
set_option linter.unusedSimpArgs false
open Go.ChangeShapes Go.WideShapes Go.ChangeAt Go.RowKit Go.Deep

section
variable {H : Type} {enc : TypeId × Value → H} {P : Program} {w : World} {base : Nat} {spare : Nat → Bool} {held : Bool}

theorem tA1 {t0 : TypeId} {args : Array Value} {ds : List (DataW H)} {ps : List MemPlace} (h : DataW.TrodAll enc P w base spare held [t0] args.toList ds ps) :
    ∃ v0 d0 p0, args = #[v0] ∧ ds = [d0] ∧ ps = p0 ∧ DataW.Trod enc P w base spare held t0 v0 d0 p0 := by
  obtain ⟨v0, vs0, d0, ds0, p0, q0, hargs, rfl, rfl, h0, r0⟩ := trodAll_cons h
  obtain ⟨rfl, rfl, rfl⟩ := trodAll_nil r0
  exact ⟨v0, d0, p0, by cases args; simp_all, rfl, by simp, h0⟩

theorem tA2 {t0 t1 : TypeId} {args : Array Value} {ds : List (DataW H)} {ps : List MemPlace} (h : DataW.TrodAll enc P w base spare held [t0, t1] args.toList ds ps) :
    ∃ v0 v1 d0 d1 p0 p1, args = #[v0, v1] ∧ ds = [d0, d1] ∧ ps = p0 ++ p1 ∧ DataW.Trod enc P w base spare held t0 v0 d0 p0 ∧ DataW.Trod enc P w base spare held t1 v1 d1 p1 := by
  obtain ⟨v0, vs0, d0, ds0, p0, q0, hargs, rfl, rfl, h0, r0⟩ := trodAll_cons h
  obtain ⟨v1, vs1, d1, ds1, p1, q1, rfl, rfl, rfl, h1, r1⟩ := trodAll_cons r0
  obtain ⟨rfl, rfl, rfl⟩ := trodAll_nil r1
  exact ⟨v0, v1, d0, d1, p0, p1, by cases args; simp_all, rfl, by simp, h0, h1⟩

theorem tA3 {t0 t1 t2 : TypeId} {args : Array Value} {ds : List (DataW H)} {ps : List MemPlace} (h : DataW.TrodAll enc P w base spare held [t0, t1, t2] args.toList ds ps) :
    ∃ v0 v1 v2 d0 d1 d2 p0 p1 p2, args = #[v0, v1, v2] ∧ ds = [d0, d1, d2] ∧ ps = p0 ++ (p1 ++ p2) ∧ DataW.Trod enc P w base spare held t0 v0 d0 p0 ∧ DataW.Trod enc P w base spare held t1 v1 d1 p1 ∧ DataW.Trod enc P w base spare held t2 v2 d2 p2 := by
  obtain ⟨v0, vs0, d0, ds0, p0, q0, hargs, rfl, rfl, h0, r0⟩ := trodAll_cons h
  obtain ⟨v1, vs1, d1, ds1, p1, q1, rfl, rfl, rfl, h1, r1⟩ := trodAll_cons r0
  obtain ⟨v2, vs2, d2, ds2, p2, q2, rfl, rfl, rfl, h2, r2⟩ := trodAll_cons r1
  obtain ⟨rfl, rfl, rfl⟩ := trodAll_nil r2
  exact ⟨v0, v1, v2, d0, d1, d2, p0, p1, p2, by cases args; simp_all, rfl, by simp, h0, h1, h2⟩

theorem tA4 {t0 t1 t2 t3 : TypeId} {args : Array Value} {ds : List (DataW H)} {ps : List MemPlace} (h : DataW.TrodAll enc P w base spare held [t0, t1, t2, t3] args.toList ds ps) :
    ∃ v0 v1 v2 v3 d0 d1 d2 d3 p0 p1 p2 p3, args = #[v0, v1, v2, v3] ∧ ds = [d0, d1, d2, d3] ∧ ps = p0 ++ (p1 ++ (p2 ++ p3)) ∧ DataW.Trod enc P w base spare held t0 v0 d0 p0 ∧ DataW.Trod enc P w base spare held t1 v1 d1 p1 ∧ DataW.Trod enc P w base spare held t2 v2 d2 p2 ∧ DataW.Trod enc P w base spare held t3 v3 d3 p3 := by
  obtain ⟨v0, vs0, d0, ds0, p0, q0, hargs, rfl, rfl, h0, r0⟩ := trodAll_cons h
  obtain ⟨v1, vs1, d1, ds1, p1, q1, rfl, rfl, rfl, h1, r1⟩ := trodAll_cons r0
  obtain ⟨v2, vs2, d2, ds2, p2, q2, rfl, rfl, rfl, h2, r2⟩ := trodAll_cons r1
  obtain ⟨v3, vs3, d3, ds3, p3, q3, rfl, rfl, rfl, h3, r3⟩ := trodAll_cons r2
  obtain ⟨rfl, rfl, rfl⟩ := trodAll_nil r3
  exact ⟨v0, v1, v2, v3, d0, d1, d2, d3, p0, p1, p2, p3, by cases args; simp_all, rfl, by simp, h0, h1, h2, h3⟩

theorem okW_arr {r : Reach} {b0 : Nat} {t e : TypeId} {n : Nat} {v : Value} (ht : P.underlying t = some (.array n e)) (h : Value.okWide P w r b0 t v) : ∃ cs, v = .agg cs := by
  unfold Value.okWide at h
  rw [ht] at h
  obtain ⟨cs, h1, _⟩ := h
  exact ⟨cs, h1⟩

theorem okW_struct {r : Reach} {b0 : Nat} {t : TypeId} {fs : Array Field} {v : Value} (ht : P.underlying t = some (.struct fs)) (h : Value.okWide P w r b0 t v) : ∃ cs, v = .agg cs := by
  unfold Value.okWide at h
  rw [ht] at h
  obtain ⟨cs, h1, _⟩ := h
  exact ⟨cs, h1⟩

def HashAt (w : World) (b o : Nat) (x : List UInt8) : Prop := x.length = 32 ∧ At w b o (bvs x)

end

section
variable {H : Type} {enc : TypeId × Value → H} {w : World}

theorem opened_hash {fuel : Nat} {cs : List Value} {x : DataW H × List MemPlace} (h : DataW.trod enc Try.prog w 0 (fun _ => true) true fuel 24 cs = some x) : ∃ L : Bs, cs = bvs L ∧ L.length = 32 :=
  opened_array Try.underlying24 Try.underlying5 cellsU8 cellsHash h

theorem hashes_read {v : Value} {l : List Bs} (hv : v = .slice none 0 0 ∨ ∃ a n c, v = .slice (some a) n c ∧ n ≤ c ∧ c ≤ maxLen) (h : Sl HashAt 32 w v l) : Hs w v l := by
  rcases h with ⟨rfl, a, c, rfl⟩ | ⟨b, off, c, rfl, h1, h2, h3⟩
  · refine ⟨fun x hx => by simp at hx, by simp, ?_⟩
    rcases hv with hv | ⟨a', n, c', hv, h1, h2⟩
    · exact .inl ⟨hv, rfl⟩
    · simp only [Value.slice.injEq] at hv
      obtain ⟨rfl, rfl, rfl⟩ := hv
      exact .inr ⟨a', c, rfl, h1, h2, fun j u hj => by simp at hj⟩
  · have h32 : H32 l := fun x hx => by
      obtain ⟨i, hi, rfl⟩ := List.getElem_of_mem hx
      exact (h3 i _ (List.getElem?_eq_getElem hi)).1
    refine ⟨h32, by rw [bvs_length, h32.flat], .inr ⟨_, c, rfl, h1, h2, fun j u hj => ?_⟩⟩
    have hjl : j < l.length * 32 := by
      have := (List.getElem?_eq_some_iff.1 hj).1
      rwa [bvs_length, h32.flat] at this
    obtain ⟨z, hx⟩ : ∃ z, l[j / 32]? = some z := ⟨_, List.getElem?_eq_getElem (show j / 32 < l.length by omega)⟩
    have h4 := (h3 _ _ hx).2
    have h5 := h32.get hx
    obtain ⟨y, hy⟩ : ∃ y, (bvs z)[j % 32]? = some y := ⟨_, List.getElem?_eq_getElem (show j % 32 < (bvs z).length by rw [bvs_length, h5]; exact Nat.mod_lt _ (by decide))⟩
    have h6 := h32.cells hx (j % 32) y hy
    rw [show j / 32 * 32 + j % 32 = j by omega, hj] at h6
    cases h6
    rw [add_at]
    have := h4 _ _ hy
    rw [show off + j = off + j / 32 * 32 + j % 32 by omega]
    exact this

theorem opened_hashes {fuel : Nat} {cs : List Value} {x : DataW H × List MemPlace} (h : DataW.trod enc Try.prog w 0 (fun _ => true) true fuel 22 cs = some x) : ∃ (v : Value) (l : List Bs), cs = [v] ∧ Hs w v l := by
  obtain ⟨v, l, hv, hs⟩ := opened_slice (R := HashAt) Try.underlying22 cellsHash (by decide) (fun fuel cs' y hy _ => by
    obtain ⟨L, rfl, hL⟩ := opened_hash hy
    exact ⟨L, fun b o hat => ⟨hL, hat⟩⟩) h
  refine ⟨v, l, hv, hashes_read ?_ hs⟩
  rcases open_slice Try.underlying22 h with ⟨h0, _⟩ | ⟨a, len, cap, m, n, D, Pl, hcs, hb, hl, hm, hmm, hx, hi⟩
  · rw [hv] at h0; simp at h0; exact .inl h0
  · rw [hv] at hcs; simp at hcs; exact .inr ⟨a, len, cap, hcs, hl, hm⟩

theorem cellsHashes : Try.prog.cellsOf 22 = 1 := by kernel_rfl
theorem cellsPath : Try.prog.cellsOf 92 = 3 := by kernel_rfl

theorem opened_path {fuel : Nat} {cs : List Value} {x : DataW H × List MemPlace} (h : DataW.trod enc Try.prog w 0 (fun _ => true) true fuel 92 cs = some x) :
    ∃ (n c : Int) (v : Value) (l : List Bs), cs = [.int .i64 n, .int .i64 c, v] ∧ Hs w v l := by
  obtain ⟨hl, m, hf⟩ := opened_struct Try.underlying92 h
  rw [cellsPath] at hl
  obtain ⟨y0, h0⟩ := hf 0 3 0 1 rfl cellsI64
  obtain ⟨y1, h1⟩ := hf 1 3 1 1 rfl cellsI64
  obtain ⟨y2, h2⟩ := hf 2 22 2 1 rfl cellsHashes
  obtain ⟨n, hn, _, _⟩ := DataW.trod_int Try.underlying3 h0
  obtain ⟨c, hc, _, _⟩ := DataW.trod_int Try.underlying3 h1
  obtain ⟨v, l, hv, hs⟩ := opened_hashes h2
  rcases cs with _ | ⟨a, _ | ⟨b, _ | ⟨d, _ | ⟨e, r⟩⟩⟩⟩ <;> simp at hl
  simp at hn hc hv
  subst hn hc hv
  exact ⟨n, c, _, l, rfl, hs⟩

end
end Go.Proofs.Ytbabjepblakboaa
