/- Texts Ya Yb Hq RowH, one behind the other. -/
import Derived.Test.YtkbahhnjoidhcaaG3
import Derived.Test.YtkbahhnjoidhcaaG1
import Derived.Great.BuildSlice
import Derived.Laws.Strings
import Derived.Test.YtkbahhnjoidhcaaG2
/- Merkle: leaves, knots, tops: the walks. -/
namespace Go.Proofs.Ytkbahhnjoidhcaa
set_option linter.unusedVariables false
set_option linter.unusedSimpArgs false
open Go.RowKit Go.Lib

abbrev Bs := List UInt8

def leafB (x : Bs) : Bs := shaB (textB [108, 101, 97, 102] x)
def knotB (a b : Bs) : Bs := shaB (textB [107, 110, 111, 116] (a ++ b))
def topB (n : Nat) (m : Bs) : Bs := shaB (textB [114, 111, 111, 116] (le n 8 ++ m))

theorem leafB_length (x : Bs) : (leafB x).length = 32 := shaB_length _
theorem knotB_length (x y : Bs) : (knotB x y).length = 32 := shaB_length _
theorem topB_length (n : Nat) (x : Bs) : (topB n x).length = 32 := shaB_length _

/-- Worlds one behind the other. -/
theorem _root_.Go.RowKit.Below.tr {u v w : World} (h : Below u.heap.size u v) (g : Below v.heap.size v w) : Below u.heap.size u w := h.trans (g.mono h.size)

theorem Pts.two (w : World) (t : TypeId) (u v : Value) (x y : Bs) (hx : Rd w 1 u x.length (bvs x)) (hy : Rd w 1 v y.length (bvs y)) : Pts (w.alloc (.cells #[u, v] t)) (.slice (some ⟨w.heap.size, 0, none⟩) 2 2) [x, y] := by
  have hb : Below w.heap.size w (w.alloc (.cells #[u, v] t)) := (Below.refl _ w).alloc (Nat.le_refl _) _
  refine ⟨[u, v], ?_, ?_⟩
  · refine ⟨rfl, .inr ⟨_, _, rfl, by simp, by simp [maxLen], fun j z hj => ?_⟩⟩
    rw [add_at, Nat.zero_add]
    exact (CB.new w t [u, v]).cell j z hj
  · intro i z hz
    match i, hz with
    | 0, hz => simp at hz; subst hz; exact ⟨_, rfl, hx.fresh hb⟩
    | 1, hz => simp at hz; subst hz; exact ⟨_, rfl, hy.fresh hb⟩
    | n + 2, hz => simp at hz

theorem alloc_one (w : World) (t : TypeId) (u : Value) (x : Bs) (hx : Rd w 1 u x.length (bvs x)) :
    ∃ w', w' = w.alloc (.cells #[u] t) ∧ Pts w' (.slice (some ⟨w.heap.size, 0, none⟩) 1 1) [x] ∧ Below w.heap.size w w' ∧ w'.heap.size = w.heap.size + 1 :=
  ⟨_, rfl, Pts.one w t u x hx, (Below.refl _ w).alloc (Nat.le_refl _) _, Array.size_push _⟩

theorem alloc_two (w : World) (t : TypeId) (u v : Value) (x y : Bs) (hx : Rd w 1 u x.length (bvs x)) (hy : Rd w 1 v y.length (bvs y)) :
    ∃ w', w' = w.alloc (.cells #[u, v] t) ∧ Pts w' (.slice (some ⟨w.heap.size, 0, none⟩) 2 2) [x, y] ∧ Below w.heap.size w w' ∧ w'.heap.size = w.heap.size + 1 :=
  ⟨_, rfl, Pts.two w t u v x y hx hy, (Below.refl _ w).alloc (Nat.le_refl _) _, Array.size_push _⟩

theorem CB.rd32 {w : World} {e : TypeId} {g : Nat} {x : Bs} (h : CB w e g (bvs x)) (hx : x.length = 32) : Rd w 1 (.slice (some ⟨g, 0, none⟩) 32 32) x.length (bvs x) := by
  have := h.rdAll (by rw [bvs_length, hx]; decide)
  rw [bvs_length, hx] at this
  rw [hx]
  exact this

set_option maxRecDepth 100000 in
theorem leaf_any (w : World) (x : Bs) (hx : x.length = 32) :
    Calls Try.prog 113 #[.agg (bvs x).toArray] w fun e w' => e = .returned (.agg (bvs (leafB x)).toArray) ∧ Below w.heap.size w w' := by
  obtain ⟨Z, hZ⟩ : ∃ Z, Z = leafB x := ⟨_, rfl⟩
  have hZl : Hid (Z.length = 32) := Lib.hid (by rw [hZ]; exact leafB_length _)
  have CT := fun w0 v0 h0 => tag_any w0 v0 [108, 101, 97, 102] [x] h0 (by simp) (by simp; omega) (by simp)
  rw [show shaB (textB [108, 101, 97, 102] ([x] : List Bs).flatten) = Z by rw [hZ]; simp [leafB]] at CT
  rw [← hZ]
  replace CT := Lib.hid CT
  have HX := Lib.hid hx
  clear hx hZ
  go_enter Try.func113, Try.ntmps113
  go_wp2_with fail
  obtain ⟨w1, h1, k1, b1, s1⟩ := alloc_cb w 24 (bvs x)
  obtain ⟨w2, h2, k2, b2, s2⟩ := alloc_cb w1 24 (bvs (List.replicate 32 0))
  obtain ⟨w3, h3, p3, b3, s3⟩ := alloc_one w2 42 _ x ((k1.rd32 HX.out).fresh b2)
  change Calls _ _ _ (((w.alloc (.cells (bvs x).toArray 24)).alloc (.cells (bvs (List.replicate 32 0)).toArray 24)).alloc (.cells #[.slice (some ⟨w.heap.size, 0, none⟩) 32 32] 42)) _
  rw [← h1, ← h2, ← h3]
  rw [s1] at s2 k2
  rw [s2] at p3
  refine (CT.out _ _ p3).mono ?_
  rintro e w4 ⟨rfl, b4⟩
  have B4 : Hid (Below w.heap.size w w4) := ((b1.tr b2).tr b3).tr b4
  have K4 := Lib.hid ((k2.fresh b3).fresh b4)
  clear p3 b4 k1 k2 b1 b2 b3 s1 s2 s3 h1 h2 h3
  go_wp2_with (with_reducible refine stopStore 24 ?_)
  refine Stop.go ?_
  refine wpList_store_var rfl 24 (.tmp 2) (.tmp 5) rfl (w.heap.size + 1) _ rfl _ (bvs Z) rfl K4.out (by simp [hZl.out]) (bvs_one _) (by rw [bvs_length, hZl.out]; exact infoHash) ?_
  intro wf kf of
  have BF : Hid (Below w.heap.size w wf) := Below.only B4.out of (by omega)
  have KF := Lib.hid kf
  clear kf of
  go_wp2
  exact bodyPost_ret (results_cell1 rfl _ _ (w.heap.size + 1) _ _ _ _ rfl KF.out Try.underlying24 rfl (by simp [hZl.out, infoHash])) rfl ⟨rfl, BF.out⟩

set_option maxRecDepth 100000 in
set_option maxHeartbeats 300000 in
theorem knot_any (w : World) (x y : Bs) (hx : x.length = 32) (hy : y.length = 32) :
    Calls Try.prog 114 #[.agg (bvs x).toArray, .agg (bvs y).toArray] w fun e w' => e = .returned (.agg (bvs (knotB x y)).toArray) ∧ Below w.heap.size w w' := by
  obtain ⟨Z, hZ⟩ : ∃ Z, Z = knotB x y := ⟨_, rfl⟩
  have hZl : Hid (Z.length = 32) := Lib.hid (by rw [hZ]; exact knotB_length _ _)
  have CT := fun w0 v0 h0 => tag_any w0 v0 [107, 110, 111, 116] [x, y] h0 (by simp) (by simp; omega) (by simp)
  rw [show shaB (textB [107, 110, 111, 116] ([x, y] : List Bs).flatten) = Z by rw [hZ]; simp [knotB]] at CT
  rw [← hZ]
  replace CT := Lib.hid CT
  have HX := Lib.hid hx
  have HY := Lib.hid hy
  clear hx hy hZ
  go_enter Try.func114, Try.ntmps114
  go_wp2_with fail
  obtain ⟨w1, h1, k1, b1, s1⟩ := alloc_cb w 24 (bvs x)
  obtain ⟨w2, h2, k2, b2, s2⟩ := alloc_cb w1 24 (bvs y)
  obtain ⟨w3, h3, k3, b3, s3⟩ := alloc_cb w2 24 (bvs (List.replicate 32 0))
  change Code.wp _ _ _ _ (((w.alloc (.cells (bvs x).toArray 24)).alloc (.cells (bvs y).toArray 24)).alloc (.cells (bvs (List.replicate 32 0)).toArray 24))
  rw [← h1, ← h2, ← h3]
  obtain ⟨w4, h4, p4, b4, s4⟩ := alloc_two w3.drew 42 (.slice (some ⟨w.heap.size, 0, none⟩) 32 32) (.slice (some ⟨w.heap.size + 1, 0, none⟩) 32 32) x y (((k1.rd32 HX.out).fresh b2).fresh b3.drew) (by have := (k2.rd32 HY.out).fresh b3.drew; rw [s1] at this; exact this)
  have b34 : Below w3.heap.size w3 w4 := (Below.refl _ w3).drew.trans b4
  have k4 := k3.fresh b34
  have B4 := ((b1.tr b2).tr b3).tr b34
  have z3 : w3.heap.size = w.heap.size + 1 + 1 + 1 := by rw [s3, s2, s1]
  have z2 : w2.heap.size = w.heap.size + 1 + 1 := by rw [s2, s1]
  rw [show w3.drew.heap.size = w3.heap.size from rfl] at p4
  rw [z2] at k4
  replace B4 := Lib.hid B4
  have K4 := Lib.hid k4
  have P4 := Lib.hid p4
  have H4 := Lib.hid h4
  have Z3 := Lib.hid z3
  clear p4 b4 b34 s4 k4 k1 k2 k3 b1 b2 b3 s1 s2 s3 h1 h2 h3 h4 z2 z3
  refine pl_start 5 rfl (fun _ => True) (by kernel_rfl) ?_
  refine pl_take (i := 0) 5 rfl rfl rfl (by kernel_rfl) (by kernel_rfl) (by kernel_rfl) (by simp [Act.put]) trivial ?_
  apply Exists.intro
  refine And.intro (fun w' hS' => ?_) ?_
  · go_wp2
    first
      | exact ⟨trivial, rfl⟩
      | exact rfl
  refine pl_take (i := 1) 6 rfl rfl rfl (by kernel_rfl) (by kernel_rfl) (by kernel_rfl) (by simp [Act.put]) trivial ?_
  apply Exists.intro
  refine And.intro (fun w' hS' => ?_) ?_
  · go_wp2
    first
      | exact ⟨trivial, rfl⟩
      | exact rfl
  refine pl_heavy (i := 2) rfl (by kernel_rfl) ?_
  go_wp2
  refine And.intro trivial ?_
  change wpAnyH _ _ _ _ _ _ _ _ (w3.drew.alloc (.cells #[.slice (some ⟨w.heap.size, 0, none⟩) 32 32, .slice (some ⟨w.heap.size + 1, 0, none⟩) 32 32] 42))
  rw [← H4.out]
  refine pl_heavy (i := 3) rfl (by kernel_rfl) ?_
  go_wp2_with fail
  refine (CT.out _ _ P4.out).mono ?_
  rintro e w5 ⟨rfl, b5⟩
  have B5 : Hid (Below w.heap.size w w5) := B4.out.tr b5
  have K5 := Lib.hid (K4.out.fresh b5)
  clear b5 P4 H4 B4 K4
  go_wp2
  refine And.intro trivial ?_
  refine pl_heavy (i := 4) rfl (by kernel_rfl) ?_
  refine wpList_store_var rfl 24 (.tmp 4) (.tmp 8) rfl (w.heap.size + 1 + 1) _ rfl _ (bvs Z) rfl K5.out (by simp [hZl.out]) (bvs_one _) (by rw [bvs_length, hZl.out]; exact infoHash) ?_
  intro wf kf of
  have BF : Hid (Below w.heap.size w wf) := Below.only B5.out of (by omega)
  have KF := Lib.hid kf
  clear kf
  go_wp2
  refine And.intro trivial ?_
  refine pl_done (by kernel_rfl) ?_
  go_wp2
  exact bodyPost_ret (results_cell1 rfl _ _ (w.heap.size + 1 + 1) _ _ _ _ rfl KF.out Try.underlying24 rfl (by simp [hZl.out, infoHash])) rfl ⟨rfl, BF.out⟩

set_option maxRecDepth 100000 in
set_option maxHeartbeats 400000 in
theorem mnumber_any (w : World) (m : Nat) (hm : m ≤ 1099511627776) :
    Calls Try.prog 115 #[.int .i64 (m : Int)] w fun e w' =>
      e = .returned (.slice (some ⟨w.heap.size, 0, none⟩) 8 8) ∧ BB w' 5 w.heap.size (le m 8) ∧ Below w.heap.size w w' := by
  obtain ⟨i0, hi, hz0, hz1, hz2⟩ := info_parts infoU8
  have h0 : (0 : Int) ≤ (m : Int) := by omega
  have HM := Lib.hid hm
  clear hm
  go_enter Try.func115, Try.ntmps115
  go_wp2_with (at_make; apply Stop.mk)
  refine Stop.go ?_
  refine wpList_make_full _ rfl _ _ 42 rfl w.heap.size 5 i0 (.int .u8 0) 1 Try.underlying42 hi hz0 hz1 _ _ _ _ 8 rfl rfl rfl rfl (by rw [hz2]; omega) (by unfold maxLen; omega) (Nat.le_refl _) ?_
  intro w1 hown hgr
  have hb1 : BB w1 5 w.heap.size (le m 0 ++ List.replicate (8 - 0) 0) := by
    refine BB.full (base := w.heap.size) (n := 8) ?_
    simpa [le, bvs, bv, Value.cells, toList_madeCells_one] using hown
  have Hb1 := Lib.hid hb1; clear hb1
  have Hbl : Hid (Below w.heap.size w w1) := Below.grown (Below.refl _ w) hgr (Nat.le_refl _) (by simp)
  clear hgr hown
  go_wp2
  go_loopw [8] (fun v wr => ∃ k : Nat, k ≤ 8 ∧ v = .int .i64 (k : Int) ∧ BB wr 5 w.heap.size (le m k ++ List.replicate (8 - k) 0) ∧ Below w.heap.size w wr)
    (fun v _ => 8 - (intOf v).toNat)
  case atStart => exact ⟨0, Nat.zero_le _, rfl, Hb1.out, Hbl.out⟩
  case round =>
    obtain ⟨k, hk, rfl, hb, hbl⟩ := hrel
    have hc : k < 8 → wr.cell? ⟨w.heap.size, k, none⟩ = some (.int .u8 0) := fun h => by
      have := hb.cell k 0 (by rw [List.getElem?_append_right (by simp [le_length]), le_length, Nat.sub_self, List.getElem?_replicate, if_pos (by omega)])
      simpa [bv] using this
    have hf : wr.frozen? ⟨w.heap.size, k, none⟩ = false := hb.free k
    have Hb := Lib.hid hb; clear hb
    have Hbl2 := Lib.hid hbl; clear hbl
    by_cases h8 : k < 8
    · have i8 : (k : Int) < 8 := by omega
      have hc' := hc h8
      have HC := Lib.hid h8
      clear hc h8
      go_wp2
      go_roundw
      case rel =>
        refine ⟨k + 1, by omega, by go_num, ?_, ?_⟩
        · rw [← le_step m k 8 (by assumption)]
          have := Hb.out.set k (UInt8.ofNat (m / 2 ^ (8 * k)))
          rw [bv_ofNat] at this
          simpa using this
        · exact Hbl2.out.setCell (p := ⟨w.heap.size, k, none⟩) (Nat.le_refl _) _
      case measure => simp [intOf]; omega
    · have hks : k = 8 := by omega
      subst hks
      go_wp2
      go_ret
      exact ⟨rfl, by simpa using Hb.out, Hbl2.out⟩

set_option maxRecDepth 100000 in
set_option maxHeartbeats 400000 in
theorem top_any (w : World) (n : Nat) (v : Value) (m : Bs) (hn : n ≤ 1099511627776) (hv : Rd w 1 v m.length (bvs m)) (hm : m.length ≤ 1000000) :
    Calls Try.prog 102 #[.int .i64 (n : Int), v] w fun e w' => e = .returned (.agg (bvs (topB n m)).toArray) ∧ Below w.heap.size w w' := by
  obtain ⟨a0, c0, rfl⟩ := hv.slice
  obtain ⟨Z, hZ⟩ : ∃ Z, Z = topB n m := ⟨_, rfl⟩
  have hZl : Hid (Z.length = 32) := Lib.hid (by rw [hZ]; exact topB_length _ _)
  obtain ⟨N, hN⟩ : ∃ N, N = le n 8 := ⟨_, rfl⟩
  have hNl : N.length = 8 := by rw [hN]; simp
  have CT := fun w0 v0 h0 => tag_any w0 v0 [114, 111, 111, 116] [N, m] h0 (by simp) (by simp; omega) (by simp)
  rw [show shaB (textB [114, 111, 111, 116] ([N, m] : List Bs).flatten) = Z by rw [hZ, hN]; simp [topB]] at CT
  have CN := fun w0 => mnumber_any w0 n hn
  rw [← hN] at CN
  rw [← hZ]
  obtain ⟨k, hk⟩ : ∃ k, k = m.length := ⟨_, rfl⟩
  rw [← hk] at hv ⊢
  replace CT := Lib.hid CT
  replace CN := Lib.hid CN
  have HV := Lib.hid hv
  have HN := Lib.hid hNl
  have HK := Lib.hid hk
  clear hn hv hm hZ hN hNl hk
  go_enter Try.func102, Try.ntmps102
  go_wp2_with fail
  obtain ⟨w1, h1, k1, b1, s1⟩ := alloc_cb w 24 (bvs (List.replicate 32 0))
  change Calls _ _ _ (w.alloc (.cells (bvs (List.replicate 32 0)).toArray 24)) _
  rw [← h1]
  refine (CN.out w1).mono ?_
  rintro e w2 ⟨rfl, r2, b2⟩
  have r2' : Rd w2 1 (.slice (some ⟨w1.heap.size, 0, none⟩) 8 8) 8 (bvs N) := by have := BB.rd r2 0 8 8 (by rw [HN.out]; omega) (by omega) (by decide); simpa [HN.out, List.take_of_length_le (show N.length ≤ 8 by rw [HN.out]; decide)] using this
  obtain ⟨w3, h3, p3, b3, s3⟩ := alloc_two w2 42 _ _ N m (by rw [HN.out]; exact r2') (by rw [← HK.out]; exact (HV.out.fresh b1).fresh b2)
  have B3 : Hid (Below w.heap.size w w3) := (b1.tr b2).tr b3
  have K3 := Lib.hid ((k1.fresh b2).fresh b3)
  have P3 := Lib.hid p3
  have H3 := Lib.hid h3
  clear p3 h3 b1 b2 b3 r2 r2' k1 s1 s3 h1
  go_wp2_with fail
  change Calls _ _ _ (w2.alloc (.cells #[.slice (some ⟨w1.heap.size, 0, none⟩) 8 8, .slice a0 k c0] 42)) _
  rw [← H3.out]
  refine (CT.out _ _ P3.out).mono ?_
  rintro e w4 ⟨rfl, b4⟩
  have B4 : Hid (Below w.heap.size w w4) := B3.out.tr b4
  have K4 := Lib.hid (K3.out.fresh b4)
  clear b4 H3 P3 B3 K3
  go_wp2_with (with_reducible refine stopStore 24 ?_)
  refine Stop.go ?_
  refine wpList_store_var rfl 24 (.tmp 4) (.tmp 9) rfl (w.heap.size) _ rfl _ (bvs Z) rfl K4.out (by simp [hZl.out]) (bvs_one _) (by rw [bvs_length, hZl.out]; exact infoHash) ?_
  intro wf kf of
  have BF : Hid (Below w.heap.size w wf) := Below.only B4.out of (by omega)
  have KF := Lib.hid kf
  clear kf of
  go_wp2
  exact bodyPost_ret (results_cell1 rfl _ _ (w.heap.size) _ _ _ _ rfl KF.out Try.underlying24 rfl (by simp [hZl.out, infoHash])) rfl ⟨rfl, BF.out⟩

end Go.Proofs.Ytkbahhnjoidhcaa

/- Merkle: lists of hashes: words; leaves, rows above. -/
namespace Go.Proofs.Ytkbahhnjoidhcaa
set_option linter.unusedVariables false
set_option linter.unusedSimpArgs false
open Go.RowKit Go.Lib

/-- Hashes all. -/
def H32 (l : List Bs) : Prop := ∀ x ∈ l, x.length = 32

theorem H32.flat {l : List Bs} (h : H32 l) : l.flatten.length = l.length * 32 := by
  induction l with
  | nil => rfl
  | cons x l ih =>
    rw [List.flatten_cons, List.length_append, h x (by simp), ih (fun y hy => h y (by simp [hy])), List.length_cons]
    omega

theorem H32.take {l : List Bs} (h : H32 l) (n : Nat) : H32 (l.take n) := fun x hx => h x (List.mem_of_mem_take hx)
theorem H32.drop {l : List Bs} (h : H32 l) (n : Nat) : H32 (l.drop n) := fun x hx => h x (List.mem_of_mem_drop hx)
theorem H32.append {l m : List Bs} (h : H32 l) (g : H32 m) : H32 (l ++ m) := fun x hx => (List.mem_append.1 hx).elim (h x) (g x)
theorem H32.get {l : List Bs} (h : H32 l) {i : Nat} {x : Bs} (hi : l[i]? = some x) : x.length = 32 := h x (List.mem_of_getElem? hi)

theorem H32.cells {l : List Bs} (h : H32 l) {i : Nat} {x : Bs} (hi : l[i]? = some x) (j : Nat) (u : Value) (hj : (bvs x)[j]? = some u) : (bvs l.flatten)[i * 32 + j]? = some u := by
  induction l generalizing i with
  | nil => simp at hi
  | cons y l ih =>
    have hy := h y (by simp)
    rw [List.flatten_cons, bvs_append]
    rcases i with _ | i
    · simp at hi; subst hi
      rw [Nat.zero_mul, Nat.zero_add, List.getElem?_append_left]
      · exact hj
      · exact (List.getElem?_eq_some_iff.1 hj).1
    · rw [List.getElem?_cons_succ] at hi
      rw [List.getElem?_append_right (by rw [bvs_length, hy]; omega), bvs_length, hy]
      have := ih (fun z hz => h z (by simp [hz])) hi
      rw [← this]
      congr 1
      omega

theorem H32.take_flat {l : List Bs} (h : H32 l) (n : Nat) : (l.take n).flatten = l.flatten.take (n * 32) := by
  induction l generalizing n with
  | nil => simp
  | cons y l ih =>
    have hy := h y (by simp)
    rcases n with _ | n
    · simp
    · rw [List.take_succ_cons, List.flatten_cons, List.flatten_cons, ih (fun z hz => h z (by simp [hz])) n, List.take_append, hy, List.take_of_length_le (l := y) (by omega), show (n + 1) * 32 - 32 = n * 32 by omega]

theorem H32.drop_flat {l : List Bs} (h : H32 l) (n : Nat) : (l.drop n).flatten = l.flatten.drop (n * 32) := by
  induction l generalizing n with
  | nil => simp
  | cons y l ih =>
    have hy := h y (by simp)
    rcases n with _ | n
    · simp
    · rw [List.drop_succ_cons, List.flatten_cons, ih (fun z hz => h z (by simp [hz])) n, List.drop_append, hy, List.drop_of_length_le (l := y) (by omega), List.nil_append, show (n + 1) * 32 - 32 = n * 32 by omega]

/-- A slice that reads hashes. -/
def Hs (w : World) (v : Value) (l : List Bs) : Prop := H32 l ∧ Rd w 32 v l.length (bvs l.flatten)
/-- A slice of hashes of one's own. -/
def Ho (w : World) (base : Nat) (v : Value) (l : List Bs) : Prop := H32 l ∧ w.ownsRow base 24 32 v l.length (bvs l.flatten)

theorem Ho.hs {w : World} {base : Nat} {v : Value} {l : List Bs} (h : Ho w base v l) : Hs w v l := ⟨h.1, Rd.of_own h.2⟩
theorem Hs.fresh {w w' : World} {v : Value} {l : List Bs} (h : Hs w v l) (hb : Below w.heap.size w w') : Hs w' v l := ⟨h.1, h.2.fresh hb⟩
theorem Ho.fresh {w w' : World} {base : Nat} {v : Value} {l : List Bs} (h : Ho w base v l) (hb : Below w.heap.size w w') : Ho w' base v l := ⟨h.1, own_fresh h.2 hb⟩
theorem Hs.slice {w : World} {v : Value} {l : List Bs} (h : Hs w v l) : ∃ a c, v = .slice a l.length c := h.2.slice
theorem Ho.slice {w : World} {base : Nat} {v : Value} {l : List Bs} (h : Ho w base v l) : ∃ a c, v = .slice a l.length c := h.hs.slice
theorem Ho.slice' {w : World} {base : Nat} {v : Value} {l : List Bs} (h : Ho w base v l) {n : Nat} (hn : l.length = n) : ∃ a c, v = .slice a n c := by subst hn; exact h.slice
theorem Hs.slice' {w : World} {v : Value} {l : List Bs} (h : Hs w v l) {n : Nat} (hn : l.length = n) : ∃ a c, v = .slice a n c := by subst hn; exact h.slice
theorem Hs.nil (w : World) : Hs w (.slice none 0 0) [] := ⟨fun x hx => by simp at hx, Rd.nil w 32⟩
theorem Ho.nil (w : World) (base : Nat) : Ho w base (.slice none 0 0) [] := ⟨fun x hx => by simp at hx, World.ownsRow_nil _ _ _ _⟩

/-- An element at its place. -/
theorem Hs.elem {w : World} {v : Value} {l : List Bs} (h : Hs w v l) {i : Nat} {x : Bs} (hi : l[i]? = some x) :
    ∃ ad c, v = .slice (some ad) l.length c ∧ ∀ j u, (bvs x)[j]? = some u → w.cell? ((ad.add (i * 32)).add j) = some u := by
  rcases h.2.2 with ⟨rfl, h0⟩ | ⟨ad, c, rfl, _, _, hcell⟩
  · rw [List.eq_nil_of_length_eq_zero h0] at hi; simp at hi
  · refine ⟨ad, c, rfl, fun j u hj => ?_⟩
    rw [add_add_addr]
    exact hcell _ _ (h.1.cells hi j u hj)

theorem Hs.elem' {w : World} {ad : Addr} {n c : Nat} {l : List Bs} (h : Hs w (.slice (some ad) n c) l) {i : Nat} {x : Bs} (hi : l[i]? = some x) :
    ∀ j u, (bvs x)[j]? = some u → w.cell? ((ad.add (i * 32)).add j) = some u := by
  obtain ⟨ad', c', he, hc⟩ := h.elem hi
  simp only [Value.slice.injEq, Option.some.injEq] at he
  obtain ⟨rfl, _, _⟩ := he
  exact hc

theorem Hs.isSome {w : World} {v : Value} {l : List Bs} (h : Hs w v l) {n : Nat} (hn : l.length = n) (h0 : 0 < n) : ∃ ad c, v = .slice (some ad) n c := by
  subst hn
  obtain ⟨ad, c, he, _⟩ := h.elem (List.getElem?_eq_getElem h0)
  exact ⟨ad, c, he⟩

theorem infoHash3 : (Try.prog.info? 24).map (fun i => (i.zero, i.size, i.bytes)) = some (some (.agg (bvs (List.replicate 32 0)).toArray), 32, 32) := by kernel_rfl

theorem bvs_flat1 (x : Bs) : bvs ([x] : List Bs).flatten = bvs x := by simp

theorem alloc_hash (w : World) (x : Bs) (hx : x.length = 32) :
    ∃ w', w' = w.alloc (.cells (bvs x).toArray 24) ∧ Hs w' (.slice (some ⟨w.heap.size, 0, none⟩) 1 1) [x] ∧ Below w.heap.size w w' ∧ w'.heap.size = w.heap.size + 1 := by
  refine ⟨_, rfl, ⟨fun y hy => by simp at hy; rw [hy]; exact hx, by simp [hx], .inr ⟨_, _, rfl, by simp, by simp [maxLen], fun j u hj => ?_⟩⟩, (Below.refl _ w).alloc (Nat.le_refl _) _, Array.size_push _⟩
  rw [add_at, Nat.zero_add]
  rw [bvs_flat1] at hj
  exact (CB.new w 24 (bvs x)).cell j u hj

theorem hashes_flat (l : List Bs) : (l.map fun x => Value.agg (bvs x).toArray).flatMap (fun v => v.cells.toList) = bvs l.flatten := by
  induction l with
  | nil => rfl
  | cons x l ih => rw [List.map_cons, List.flatMap_cons, ih, List.flatten_cons, bvs_append]; rfl

/-- A slice literal of hashes. -/
theorem wpList_buildH {ops : Array Oper} {rest : List Oper} {o : Oper} {a : Act} {w : World} {Q : Exit → Act → World → Prop} (hgd : o.guard = none) (len : Nat) (parts : Array (Nat × Operand)) (ho : o.op = .buildSlice 22 len parts)
    (l : List Bs) (hl : H32 l) (hlen : l.length = len) (hpos : 0 < len) (hsm : len ≤ 500000)
    (hp : (parts.map fun (i, x) => (i, a.eval x)).toList = ((l.map fun x => Value.agg (bvs x).toArray).zipIdx 0).map fun x => (x.2, x.1))
    (h : ∀ w', Hs w' (.slice (some ⟨w.heap.size, 0, none⟩) len len) l → Below w.heap.size w w' → w'.heap.size = w.heap.size + 1 → wpList Try.prog ops Q rest (a.put o.dst (.slice (some ⟨w.heap.size, 0, none⟩) len len)) w') : wpList Try.prog ops Q (o :: rest) a w := by
  obtain ⟨i0, hi, hz0, hz1, hz2⟩ := info_parts infoHash3
  have hfl := hashes_flat l
  refine wpList_buildSlice hgd 22 24 len parts ho (bvs l.flatten).toArray i0 _ Try.underlying22 hi hz0 (by rw [hz1]; omega) (by rw [hz1]; omega) ?_ ?_
  · rw [hp, hz1, Great.fill_whole (by decide) _ _ ?_ ?_, hfl]
    · intro v hv
      obtain ⟨x, hx, rfl⟩ := List.mem_map.1 hv
      simp [Value.cells, hl x hx]
    · simp [hlen]
  · refine h _ ⟨hl, by rw [bvs_length, hl.flat], .inr ⟨_, _, by rw [hlen], by omega, by unfold maxLen; omega, fun j u hj => ?_⟩⟩ ((Below.refl _ w).alloc (Nat.le_refl _) _) (Array.size_push _)
    rw [add_at, Nat.zero_add]
    exact (CB.new w 24 (bvs l.flatten)).cell j u hj

theorem H32.one {x : Bs} (h : x.length = 32) : H32 [x] := fun y hy => by simp at hy; rw [hy]; exact h

set_option maxRecDepth 100000 in
set_option maxHeartbeats 400000 in
theorem leaves_any (w : World) (v : Value) (l : List Bs) (h : Hs w v l) (hl : l.length ≤ 1048576) :
    Calls Try.prog 100 #[v] w fun e w' => ∃ v', e = .returned v' ∧ Ho w' w.heap.size v' (l.map leafB) ∧ Below w.heap.size w w' := by
  obtain ⟨i0, hi, hz0, hz1, hz2⟩ := info_parts infoHash3
  obtain ⟨a0, c0, rfl⟩ := h.slice
  obtain ⟨N, hN⟩ : ∃ N, N = l.length := ⟨_, rfl⟩
  have H := Lib.hid h; clear h
  have HL := Lib.hid hl; clear hl
  rw [← hN] at H HL ⊢
  have HN := Lib.hid hN; clear hN
  go_enter Try.func100, Try.ntmps100
  go_wp2
  go_loopw [3, 8] (fun v3 v8 wr => ∃ k : Nat, k ≤ N ∧ v8 = .int .i64 (k : Int) ∧ Ho wr w.heap.size v3 ((l.take k).map leafB) ∧ Below w.heap.size w wr)
    (fun _ v _ => N - (intOf v).toNat)
  case atStart => exact ⟨0, Nat.zero_le _, rfl, Ho.nil _ _, Below.refl _ _⟩
  case round =>
    obtain ⟨k, hk, rfl, ho, hb⟩ := hrel
    obtain ⟨a3, c3, rfl⟩ := ho.slice' (n := k) (by rw [List.length_map, List.length_take]; have := HN.out; omega)
    have Ho' := Lib.hid ho; clear ho
    have Hb := Lib.hid hb; clear hb
    by_cases hlt : k < N
    · obtain ⟨x, hx⟩ : ∃ x, l[k]? = some x := ⟨_, List.getElem?_eq_getElem (by rw [← HN.out]; exact hlt)⟩
      have H1 := H.out
      rw [HN.out] at H1
      obtain ⟨ad, c, he, hcell⟩ := (H1.fresh Hb.out).elem hx
      simp only [Value.slice.injEq, true_and] at he
      obtain ⟨rfl, rfl⟩ := he
      have HC := Lib.hid hcell
      have HX := Lib.hid hx
      have ik : (k : Int) < (N : Int) := by omega
      have iN : (N : Int) ≤ 1048576 := by have := HL.out; omega
      clear H1 hcell hx hlt
      go_wp2_with (with_reducible refine stopAt 11 ?_)
      refine Stop.go ?_
      refine wpList_load_agg rfl 24 (.tmp 10) rfl (ad.add (k * 32)) rfl (bvs x) _ (HC.out) Try.underlying24 rfl (by rw [bvs_length, (H.out.1.get HX.out)]; exact infoHash) ?_
      go_wp2_with (with_reducible refine stopStore 24 ?_)
      refine Stop.go ?_
      refine wpList_store_var rfl 24 (.tmp 5) (.tmp 11) rfl wr.heap.size _ rfl _ (bvs x) rfl (heap_alloc_new wr _) (by simp [H.out.1.get HX.out]) (bvs_one _) (by rw [bvs_length, H.out.1.get HX.out]; exact infoHash) ?_
      intro w1 kw1 ow1
      have bw1 : Below wr.heap.size wr w1 := Below.only ((Below.refl _ wr).alloc (Nat.le_refl _) _) ow1 (Nat.le_refl _)
      replace kw1 : CB w1 24 wr.heap.size (bvs x) := kw1
      clear ow1
      replace kw1 := Lib.hid kw1
      replace bw1 := Lib.hid bw1
      go_wp2_with (with_reducible refine stopAt 13 ?_)
      refine Stop.go ?_
      refine wpList_load_agg rfl 24 (.tmp 5) rfl (⟨wr.heap.size, 0, none⟩) rfl (bvs x) _ ((At.block kw1.out).load) Try.underlying24 rfl (by rw [bvs_length, H.out.1.get HX.out]; exact infoHash) ?_
      go_wp2_with fail
      refine (leaf_any w1 x (H.out.1.get HX.out)).mono ?_
      rintro e w2 ⟨rfl, b2⟩
      have B2 := Lib.hid (bw1.out.tr b2)
      clear b2 kw1 bw1
      go_wp2_with (with_reducible refine stopAt 15 ?_)
      refine Stop.go ?_
      refine wpList_buildH rfl 1 _ rfl ([leafB x]) (H32.one (leafB_length x)) rfl (by decide) (by decide) (by kernel_rfl) ?_
      intro w3 pw3 bw3 sw3
      have p3 := pw3
      have b3 := bw3
      clear pw3 bw3 sw3
      go_wp2_with (at_builtin; apply Stop.mk)
      refine Stop.go ?_
      have B3 := B2.out.tr b3
      refine wpList_append_rd _ rfl (.tmp 12) (.tmp 15) 22 rfl w.heap.size 24 i0 _ 32 32 Try.underlying22 hi hz0 hz1 hz2 (by simp [Value.cells]) (by decide) (.slice a3 k c3) k (bvs ((l.take k).map leafB).flatten) rfl (by have := (Ho'.out.fresh B3).2; rwa [List.length_map, List.length_take, show min k l.length = k by have := HN.out; omega] at this) _ 1 _ rfl p3.2 (bvs_one _) (by unfold maxLen; have := HL.out; omega) (by have := HL.out; omega) (by have := Hb.out.size; have := B3.size; omega) ?_
      intro v4 w4 hown4 hgr4 _ _
      have B4 : Hid (Below w.heap.size w w4) := (Hb.out.tr B3).grown hgr4 (by have := Hb.out.size; have := B3.size; omega) (fun j hj => (Ho'.out.2.lt j hj).1)
      have O4 : Hid (Ho w4 w.heap.size v4 ((l.take (k + 1)).map leafB)) := by
        have e1 : (l.take (k + 1)).map leafB = (l.take k).map leafB ++ [leafB x] := by rw [List.take_add_one, HX.out]; simp
        rw [e1]
        refine ⟨Ho'.out.1.append p3.1, ?_⟩
        rw [List.flatten_append, bvs_append, List.length_append, List.length_map, List.length_take, show min k l.length = k by have := HN.out; omega]
        exact hown4
      clear hown4 hgr4 B3 p3 b3 B2
      go_wp2
      go_roundw
      case rel => exact ⟨k + 1, by omega, by go_num, O4.out, B4.out⟩
      case measure => simp [intOf]; omega
    · have hkN : k = N := by omega
      subst hkN
      have O4 : Hid (Ho wr w.heap.size (.slice a3 k c3) (l.map leafB)) := by
        have := Ho'.out
        rwa [List.take_of_length_le (by have := HN.out; omega)] at this
      go_wp2
      go_ret
      exact ⟨_, rfl, O4.out, Hb.out⟩

theorem up_two {α : Type} (K : α → α → α) (l : List α) (k : Nat) (x y : α) (hx : l[2 * k]? = some x) (hy : l[2 * k + 1]? = some y) : (up K l)[k]? = some (K x y) := by
  induction l using up.induct generalizing k with
  | case1 a b l ih =>
    rcases k with _ | k
    · simp at hx hy; subst hx hy; rfl
    · rw [up, List.getElem?_cons_succ]
      exact ih k (by rw [show 2 * (k + 1) = 2 * k + 1 + 1 by omega] at hx; simpa using hx) (by rw [show 2 * (k + 1) + 1 = 2 * k + 1 + 1 + 1 by omega] at hy; simpa using hy)
  | case2 a => simp at hy
  | case3 => simp at hx

theorem up_last {α : Type} (K : α → α → α) (l : List α) (k : Nat) (x : α) (hx : l[2 * k]? = some x) (hy : l.length = 2 * k + 1) : (up K l)[k]? = some x := by
  induction l using up.induct generalizing k with
  | case1 a b l ih =>
    rcases k with _ | k
    · simp at hy
    · rw [up, List.getElem?_cons_succ]
      exact ih k (by rw [show 2 * (k + 1) = 2 * k + 1 + 1 by omega] at hx; simpa using hx) (by simp at hy; omega)
  | case2 a =>
    have : k = 0 := by simp at hy; omega
    subst this
    simpa [up] using hx
  | case3 => simp at hx

theorem up_h32 {l : List Bs} (h : H32 l) : H32 (up knotB l) := by
  induction l using up.induct with
  | case1 a b l ih =>
    intro x hx
    rw [up, List.mem_cons] at hx
    rcases hx with rfl | hx
    · exact knotB_length _ _
    · exact ih (fun y hy => h y (by simp [hy])) x hx
  | case2 a => exact h
  | case3 => exact h

/-- One hash more behind an own row. -/
theorem Ho.grow {w w' : World} {base : Nat} {a : Option Addr} {k c : Nat} {v' : Value} {L : List Bs} {x : Bs} (hx : L[k]? = some x) (hL : H32 L) (h : Ho w base (.slice a k c) (L.take k))
    (hown : w'.ownsRow base 24 32 v' (k + 1) (bvs (L.take k).flatten ++ bvs ([x] : List Bs).flatten)) : Ho w' base v' (L.take (k + 1)) := by
  have hk : k < L.length := (List.getElem?_eq_some_iff.1 hx).1
  have e1 : L.take (k + 1) = L.take k ++ [x] := by rw [List.take_add_one, hx]; rfl
  refine ⟨hL.take _, ?_⟩
  rw [e1, List.flatten_append, bvs_append, List.length_append, List.length_take, show min k L.length = k by omega]
  exact hown

theorem Ho.row {w : World} {base : Nat} {a : Option Addr} {k c : Nat} {L : List Bs} {w' : World} (h : Ho w base (.slice a k c) (L.take k)) (hk : k ≤ L.length) (hb : Below w.heap.size w w') : w'.ownsRow base 24 32 (.slice a k c) k (bvs (L.take k).flatten) := by
  have := (h.fresh hb).2
  rwa [List.length_take, show min k L.length = k by omega] at this

set_option maxRecDepth 100000 in
set_option maxHeartbeats 1000000 in
theorem above_any (w : World) (v : Value) (l : List Bs) (h : Hs w v l) (hl : l.length ≤ 1048576) :
    Calls Try.prog 101 #[v] w fun e w' => ∃ v', e = .returned v' ∧ Ho w' w.heap.size v' (up knotB l) ∧ Below w.heap.size w w' := by
  obtain ⟨i0, hi, hz0, hz1, hz2⟩ := info_parts infoHash3
  obtain ⟨a0, c0, rfl⟩ := h.slice
  obtain ⟨N, hN⟩ : ∃ N, N = l.length := ⟨_, rfl⟩
  obtain ⟨L, hL⟩ : ∃ L, L = up knotB l := ⟨_, rfl⟩
  have hLl : L.length = (N + 1) / 2 := by rw [hL, up_length, hN]
  have hL32 : H32 L := by rw [hL]; exact up_h32 h.1
  have U2 := fun k x y => up_two knotB l k x y
  have U1 := fun k x => up_last knotB l k x
  rw [← hL] at U1 U2
  have H := Lib.hid h
  rw [← hN] at H hl U1 ⊢
  rw [← hL]
  have HN := Lib.hid hN
  replace U1 := Lib.hid U1
  replace U2 := Lib.hid U2
  replace hLl := Lib.hid hLl
  replace hL32 := Lib.hid hL32
  have iN : (N : Int) ≤ 1048576 := by omega
  clear h hN hl hL
  go_enter Try.func101, Try.ntmps101
  go_wp2
  go_loopw [3, 4] (fun v3 v4 wr => ∃ k K : Nat, K = 2 * k ∧ k ≤ (N + 1) / 2 ∧ v4 = .int .i64 (K : Int) ∧ Ho wr w.heap.size v3 (L.take k) ∧ Below w.heap.size w wr)
    (fun _ v _ => (N + 1) / 2 - (intOf v).toNat / 2)
  case atStart => exact ⟨0, 0, rfl, Nat.zero_le _, rfl, Ho.nil _ _, Below.refl _ _⟩
  case round =>
    obtain ⟨k, K, hK, hk, rfl, ho, hb⟩ := hrel
    obtain ⟨a3, c3, rfl⟩ := ho.slice' (n := k) (by rw [List.length_take, hLl.out]; omega)
    have Ho' := Lib.hid ho; clear ho
    have Hb := Lib.hid hb; clear hb
    by_cases hlt : K < N
    · obtain ⟨x, hx⟩ : ∃ x, l[K]? = some x := ⟨_, List.getElem?_eq_getElem (by rw [← HN.out]; exact hlt)⟩
      have HX := Lib.hid hx
      obtain ⟨ad, c, he⟩ := H.out.isSome HN.out.symm (by omega)
      simp only [Value.slice.injEq, true_and] at he
      obtain ⟨rfl, rfl⟩ := he
      have ik : (K : Int) < (N : Int) := by omega
      have HX32 := Lib.hid (H.out.1.get hx)
      clear hx
      by_cases hlt2 : K + 1 < N
      · obtain ⟨y, hy⟩ : ∃ y, l[K + 1]? = some y := ⟨_, List.getElem?_eq_getElem (by rw [← HN.out]; exact hlt2)⟩
        have HY := Lib.hid hy
        have HY32 := Lib.hid (H.out.1.get hy)
        have hU := Lib.hid (U2.out k x y (by rw [← hK]; exact HX.out) (by rw [← hK]; exact hy))
        have ik2 : (K : Int) + 1 < (N : Int) := by omega
        have hS : Hs wr.drew (.slice (some ad) N c0) l := H.out.fresh (Hb.out.drew)
        replace hS := Lib.hid hS
        have HK := Lib.hid hK
        clear hy hK
        go_wp2_with fail
        refine pl_start 14 rfl (fun w' => Hs w' (.slice (some ad) N c0) l) (by kernel_rfl) ?_
        refine pl_take (i := 0) 16 rfl rfl rfl (by kernel_rfl) (by kernel_rfl) (by kernel_rfl) (by simp [Act.put]) hS.out ?_
        apply Exists.intro
        refine And.intro (fun w' hS' => ?_) ?_
        · go_wp2
          first
            | exact ⟨trivial, rfl⟩
            | exact rfl
        refine pl_take (i := 1) 17 rfl rfl rfl (by kernel_rfl) (by kernel_rfl) (by kernel_rfl) (by simp [Act.put]) hS.out ?_
        apply Exists.intro
        refine And.intro (fun w' hS' => ?_) ?_
        · go_wp2
          first
            | exact ⟨trivial, rfl⟩
            | exact rfl
        refine pl_take (i := 2) 18 rfl rfl rfl (by kernel_rfl) (by kernel_rfl) (by kernel_rfl) (by simp [Act.put]) hS.out ?_
        apply Exists.intro
        refine And.intro (fun w' hS' => ?_) ?_
        · go_wp2
          first
            | exact ⟨trivial, rfl⟩
            | exact rfl
        refine pl_take (i := 3) 19 rfl rfl rfl (by kernel_rfl) (by kernel_rfl) (by kernel_rfl) (by simp [Act.put]) hS.out ?_
        apply Exists.intro
        refine And.intro (fun w' hS' => ?_) ?_
        · clear hS'
          go_wp2
          exact ⟨trivial, rfl⟩
        refine pl_take (i := 4) 20 rfl rfl rfl (by kernel_rfl) (by kernel_rfl) (by kernel_rfl) (by simp [Act.put]) hS.out ?_
        apply Exists.intro
        refine And.intro (fun w' hS' => ?_) ?_
        · refine wpList_load_agg rfl 24 (.tmp 19) rfl (ad.add (K * 32)) rfl (bvs x) _ (hS'.elem' HX.out) Try.underlying24 rfl (by rw [bvs_length, HX32.out]; exact infoHash) ?_
          go_wp2
          exact ⟨trivial, rfl⟩
        refine pl_take (i := 5) 21 rfl rfl rfl (by kernel_rfl) (by kernel_rfl) (by kernel_rfl) (by simp [Act.put]) hS.out ?_
        apply Exists.intro
        refine And.intro (fun w' hS' => ?_) ?_
        · go_wp2
          first
            | exact ⟨trivial, rfl⟩
            | exact rfl
        refine pl_take (i := 6) 22 rfl rfl rfl (by kernel_rfl) (by kernel_rfl) (by kernel_rfl) (by simp [Act.put]) hS.out ?_
        apply Exists.intro
        refine And.intro (fun w' hS' => ?_) ?_
        · go_wp2
          first
            | exact ⟨trivial, rfl⟩
            | exact rfl
        refine pl_take (i := 7) 23 rfl rfl rfl (by kernel_rfl) (by kernel_rfl) (by kernel_rfl) (by simp [Act.put]) hS.out ?_
        apply Exists.intro
        refine And.intro (fun w' hS' => ?_) ?_
        · go_wp2
          first
            | exact ⟨trivial, rfl⟩
            | exact rfl
        refine pl_take (i := 8) 24 rfl rfl rfl (by kernel_rfl) (by kernel_rfl) (by kernel_rfl) (by simp [Act.put]) hS.out ?_
        apply Exists.intro
        refine And.intro (fun w' hS' => ?_) ?_
        · go_wp2
          first
            | exact ⟨trivial, rfl⟩
            | exact rfl
        refine pl_take (i := 9) 25 rfl rfl rfl (by kernel_rfl) (by kernel_rfl) (by kernel_rfl) (by simp [Act.put]) hS.out ?_
        apply Exists.intro
        refine And.intro (fun w' hS' => ?_) ?_
        · refine wpList_load_agg rfl 24 (.tmp 24) rfl (ad.add ((K + 1) * 32)) rfl (bvs y) _ (hS'.elem' HY.out) Try.underlying24 rfl (by rw [bvs_length, HY32.out]; exact infoHash) ?_
          go_wp2
          exact ⟨trivial, rfl⟩
        refine pl_heavy (i := 10) rfl (by kernel_rfl) ?_
        go_wp2_with fail
        refine (knot_any _ x y HX32.out HY32.out).mono ?_
        rintro e w1 ⟨rfl, b1⟩
        have B1 : Hid (Below w.heap.size w w1) := Hb.out.drew.tr b1
        have S1 := Lib.hid (hS.out.fresh b1)
        have O1 := Lib.hid (Ho'.out.fresh ((Below.refl _ wr).drew.tr b1))
        clear b1 hS
        go_wp2
        refine And.intro S1.out ?_
        refine pl_heavy (i := 11) rfl (by kernel_rfl) ?_
        refine wpList_buildH rfl 1 _ rfl ([knotB x y]) (H32.one (knotB_length x y)) rfl (by decide) (by decide) (by kernel_rfl) ?_
        intro w2 p2 b2 s2
        have S2 := Lib.hid (S1.out.fresh b2)
        have B2 := Lib.hid (B1.out.tr b2)
        have O2 := Lib.hid (O1.out.row (by rw [hLl.out]; exact hk) b2)
        have P2 := Lib.hid p2
        clear p2 b2 s2 S1 B1
        go_wp2
        refine And.intro S2.out ?_
        refine pl_heavy (i := 12) rfl (by kernel_rfl) ?_
        refine wpList_append_rd _ rfl (.tmp 16) (.tmp 27) 22 rfl w.heap.size 24 i0 _ 32 32 Try.underlying22 hi hz0 hz1 hz2 (by simp [Value.cells]) (by decide) (.slice a3 k c3) k (bvs (L.take k).flatten) rfl O2.out _ 1 _ rfl P2.out.2 (bvs_one _) (by unfold maxLen; omega) (by omega) (by have := B2.out.size; omega) ?_
        intro v4 w4 hown4 hgr4 _ _
        have B4 : Hid (Below w.heap.size w w4) := B2.out.grown hgr4 (by have := B2.out.size; omega) (fun j hj => (Ho'.out.2.lt j hj).1)
        have O4 : Hid (Ho w4 w.heap.size v4 (L.take (k + 1))) := Ho.grow hU.out hL32.out Ho'.out hown4
        have S4 : Hid (Hs w4 (.slice (some ad) N c0) l) := H.out.fresh B4.out
        clear hown4 hgr4 P2 B2 O2 O1 S2
        go_wp2
        refine And.intro S4.out ?_
        refine pl_heavy (i := 13) rfl (by kernel_rfl) ?_
        go_wp2
        refine And.intro S4.out ?_
        refine pl_done (by kernel_rfl) ?_
        go_wp2
        go_roundw
        case rel => exact ⟨k + 1, K + 2, by have := HK.out; omega, by have := HK.out; omega, by go_num, O4.out, B4.out⟩
        case measure => simp [intOf]; omega
      · have hU := Lib.hid (U1.out k x (by rw [← hK]; exact HX.out) (by omega))
        have ik2 : ¬ ((K : Int) + 1 < (N : Int)) := by omega
        have hS : Hs wr (.slice (some ad) N c0) l := H.out.fresh Hb.out
        have hE := Lib.hid (hS.elem' HX.out)
        have HK := Lib.hid hK
        clear hS hK
        go_wp2_with (with_reducible refine stopAt 33 ?_)
        refine Stop.go ?_
        refine wpList_load_agg rfl 24 (.tmp 32) rfl (ad.add (K * 32)) rfl (bvs x) _ (hE.out) Try.underlying24 rfl (by rw [bvs_length, HX32.out]; exact infoHash) ?_
        go_wp2_with (with_reducible refine stopAt 34 ?_)
        refine Stop.go ?_
        refine wpList_buildH rfl 1 _ rfl ([x]) (H32.one HX32.out) rfl (by decide) (by decide) (by kernel_rfl) ?_
        intro w2 pw2 bw2 sw2
        have B2 := Lib.hid (Hb.out.tr bw2)
        have O2 := Lib.hid (Ho'.out.row (by rw [hLl.out]; exact hk) bw2)
        have P2 := Lib.hid pw2
        clear pw2 bw2 sw2
        go_wp2_with (at_builtin; apply Stop.mk)
        refine Stop.go ?_
        refine wpList_append_rd _ rfl (.tmp 29) (.tmp 34) 22 rfl w.heap.size 24 i0 _ 32 32 Try.underlying22 hi hz0 hz1 hz2 (by simp [Value.cells]) (by decide) (.slice a3 k c3) k (bvs (L.take k).flatten) rfl O2.out _ 1 _ rfl P2.out.2 (bvs_one _) (by unfold maxLen; omega) (by omega) (by have := B2.out.size; omega) ?_
        intro v4 w4 hown4 hgr4 _ _
        have B4 : Hid (Below w.heap.size w w4) := B2.out.grown hgr4 (by have := B2.out.size; omega) (fun j hj => (Ho'.out.2.lt j hj).1)
        have O4 : Hid (Ho w4 w.heap.size v4 (L.take (k + 1))) := Ho.grow hU.out hL32.out Ho'.out hown4
        clear hown4 hgr4 P2 B2 O2
        go_wp2
        go_roundw
        case rel => exact ⟨k + 1, K + 2, by have := HK.out; omega, by have := HK.out; omega, by go_num, O4.out, B4.out⟩
        case measure => simp [intOf]; omega
    · have hkk : k = (N + 1) / 2 := by omega
      have ik : ¬ ((K : Int) < (N : Int)) := by omega
      have O4 : Hid (Ho wr w.heap.size (.slice a3 k c3) L) := by
        have := Ho'.out
        rwa [List.take_of_length_le (by rw [hLl.out]; omega)] at this
      clear hkk
      go_wp2
      go_ret
      exact ⟨_, rfl, O4.out, Hb.out⟩

end Go.Proofs.Ytkbahhnjoidhcaa

/- Two hashes, two strings of known bytes, compared; beginnings of lists. -/
namespace Go.Proofs.Ytkbahhnjoidhcaa
set_option linter.unusedVariables false
set_option linter.unusedSimpArgs false
open Go.RowKit Go.Lib

theorem hash_ne (w : World) (xs ys : List UInt8) (hx : xs.length = 32) (hy : ys.length = 32) :
    (binOp .neq 24 (.agg (bvs xs).toArray) (.agg (bvs ys).toArray)).run Try.prog w = .ok (.bool (xs != ys)) w := by
  have h := hash_eq w xs ys hx hy
  rw [run_eql_struct] at h
  rw [run_neq_struct]
  revert h
  generalize (Op.equalIn 10000 24 (.agg (bvs xs).toArray) (.agg (bvs ys).toArray)).run Try.prog w = r
  intro h
  cases r with
  | ok b w1 =>
    simp only [Result.andThen_ok, Sem.run_pure, Result.ok.injEq, Value.bool.injEq] at h
    obtain ⟨rfl, rfl⟩ := h
    simp [bne]
  | halt x w1 => cases h

theorem take_next {l m : List Bs} {k : Nat} {x y : Bs} (hx : l[k]? = some x) (hy : m[k]? = some y) (h : l.take k = m.take k) (hxy : x = y) : l.take (k + 1) = m.take (k + 1) := by
  rw [List.take_add_one, List.take_add_one, hx, hy, h, hxy]

theorem str_guard (w : World) (op : BinOp) (x y : Operand) (a b : ByteArray) : (eqGuard op 9 x y (.string a) (.string b)).run Try.prog w = .ok () w := by
  cases op <;> rfl

theorem str_neq (w : World) (X O : List UInt8) : (binOp .neq 9 (.string ⟨X.toArray⟩) (.string ⟨O.toArray⟩)).run Try.prog w = .ok (.bool (X != O)) w := by
  have e : ∀ Y : List UInt8, (⟨Y.toArray⟩ : ByteArray).toList = Y := fun Y => by simp
  simp only [binOp, Op.stringOp, e]
  rfl

end Go.Proofs.Ytkbahhnjoidhcaa

/- What the arguments of laws read as: hashes, lists of hashes. -/
namespace Go.Proofs.Ytkbahhnjoidhcaa
set_option linter.unusedVariables false
set_option linter.unusedSimpArgs false
open Go.ChangeShapes Go.WideShapes Go.ChangeAt Go.RowKit Go.Deep

section
variable {H : Type} {enc : TypeId × Value → H} {P : Program} {w : World} {base : Nat} {spare : Nat → Bool} {held : Bool}

theorem tA1 {t0 : TypeId} {args : Array Value} {ds : List (DataW H)} {ps : List MemPlace} (h : DataW.TrodAll enc P w base spare held [t0] args.toList ds ps) :
    ∃ v0 d0 p0, args = #[v0] ∧ ds = [d0] ∧ ps = p0 ∧ DataW.Trod enc P w base spare held t0 v0 d0 p0 := by
  obtain ⟨v0, vs0, d0, ds0, p0, q0, hargs, rfl, rfl, h0, r0⟩ := trodAll_cons h
  obtain ⟨rfl, rfl, rfl⟩ := trodAll_nil r0
  exact ⟨v0, d0, p0, by cases args; simp_all, rfl, by simp, h0⟩

theorem tA2 {t0 t1 : TypeId} {args : Array Value} {ds : List (DataW H)} {ps : List MemPlace} (h : DataW.TrodAll enc P w base spare held [t0, t1] args.toList ds ps) :
    ∃ v0 v1 d0 d1 p0 p1, args = #[v0, v1] ∧ ds = [d0, d1] ∧ ps = p0 ++ p1 ∧ DataW.Trod enc P w base spare held t0 v0 d0 p0 ∧ DataW.Trod enc P w base spare held t1 v1 d1 p1 := by
  obtain ⟨v0, vs0, d0, ds0, p0, q0, hargs, rfl, rfl, h0, r0⟩ := trodAll_cons h
  obtain ⟨v1, vs1, d1, ds1, p1, q1, rfl, rfl, rfl, h1, r1⟩ := trodAll_cons r0
  obtain ⟨rfl, rfl, rfl⟩ := trodAll_nil r1
  exact ⟨v0, v1, d0, d1, p0, p1, by cases args; simp_all, rfl, by simp, h0, h1⟩

theorem tA3 {t0 t1 t2 : TypeId} {args : Array Value} {ds : List (DataW H)} {ps : List MemPlace} (h : DataW.TrodAll enc P w base spare held [t0, t1, t2] args.toList ds ps) :
    ∃ v0 v1 v2 d0 d1 d2 p0 p1 p2, args = #[v0, v1, v2] ∧ ds = [d0, d1, d2] ∧ ps = p0 ++ (p1 ++ p2) ∧ DataW.Trod enc P w base spare held t0 v0 d0 p0 ∧ DataW.Trod enc P w base spare held t1 v1 d1 p1 ∧ DataW.Trod enc P w base spare held t2 v2 d2 p2 := by
  obtain ⟨v0, vs0, d0, ds0, p0, q0, hargs, rfl, rfl, h0, r0⟩ := trodAll_cons h
  obtain ⟨v1, vs1, d1, ds1, p1, q1, rfl, rfl, rfl, h1, r1⟩ := trodAll_cons r0
  obtain ⟨v2, vs2, d2, ds2, p2, q2, rfl, rfl, rfl, h2, r2⟩ := trodAll_cons r1
  obtain ⟨rfl, rfl, rfl⟩ := trodAll_nil r2
  exact ⟨v0, v1, v2, d0, d1, d2, p0, p1, p2, by cases args; simp_all, rfl, by simp, h0, h1, h2⟩

theorem tA4 {t0 t1 t2 t3 : TypeId} {args : Array Value} {ds : List (DataW H)} {ps : List MemPlace} (h : DataW.TrodAll enc P w base spare held [t0, t1, t2, t3] args.toList ds ps) :
    ∃ v0 v1 v2 v3 d0 d1 d2 d3 p0 p1 p2 p3, args = #[v0, v1, v2, v3] ∧ ds = [d0, d1, d2, d3] ∧ ps = p0 ++ (p1 ++ (p2 ++ p3)) ∧ DataW.Trod enc P w base spare held t0 v0 d0 p0 ∧ DataW.Trod enc P w base spare held t1 v1 d1 p1 ∧ DataW.Trod enc P w base spare held t2 v2 d2 p2 ∧ DataW.Trod enc P w base spare held t3 v3 d3 p3 := by
  obtain ⟨v0, vs0, d0, ds0, p0, q0, hargs, rfl, rfl, h0, r0⟩ := trodAll_cons h
  obtain ⟨v1, vs1, d1, ds1, p1, q1, rfl, rfl, rfl, h1, r1⟩ := trodAll_cons r0
  obtain ⟨v2, vs2, d2, ds2, p2, q2, rfl, rfl, rfl, h2, r2⟩ := trodAll_cons r1
  obtain ⟨v3, vs3, d3, ds3, p3, q3, rfl, rfl, rfl, h3, r3⟩ := trodAll_cons r2
  obtain ⟨rfl, rfl, rfl⟩ := trodAll_nil r3
  exact ⟨v0, v1, v2, v3, d0, d1, d2, d3, p0, p1, p2, p3, by cases args; simp_all, rfl, by simp, h0, h1, h2, h3⟩

theorem okW_arr {r : Reach} {b0 : Nat} {t e : TypeId} {n : Nat} {v : Value} (ht : P.underlying t = some (.array n e)) (h : Value.okWide P w r b0 t v) : ∃ cs, v = .agg cs := by
  unfold Value.okWide at h
  rw [ht] at h
  obtain ⟨cs, h1, _⟩ := h
  exact ⟨cs, h1⟩

theorem okW_struct {r : Reach} {b0 : Nat} {t : TypeId} {fs : Array Field} {v : Value} (ht : P.underlying t = some (.struct fs)) (h : Value.okWide P w r b0 t v) : ∃ cs, v = .agg cs := by
  unfold Value.okWide at h
  rw [ht] at h
  obtain ⟨cs, h1, _⟩ := h
  exact ⟨cs, h1⟩

def HashAt (w : World) (b o : Nat) (x : List UInt8) : Prop := x.length = 32 ∧ At w b o (bvs x)

end

section
variable {H : Type} {enc : TypeId × Value → H} {w : World}

theorem opened_hash {fuel : Nat} {cs : List Value} {x : DataW H × List MemPlace} (h : DataW.trod enc Try.prog w 0 (fun _ => true) true fuel 24 cs = some x) : ∃ L : Bs, cs = bvs L ∧ L.length = 32 :=
  opened_array Try.underlying24 Try.underlying5 cellsU8 cellsHash h

theorem hashes_read {v : Value} {l : List Bs} (hv : v = .slice none 0 0 ∨ ∃ a n c, v = .slice (some a) n c ∧ n ≤ c ∧ c ≤ maxLen) (h : Sl HashAt 32 w v l) : Hs w v l := by
  rcases h with ⟨rfl, a, c, rfl⟩ | ⟨b, off, c, rfl, h1, h2, h3⟩
  · refine ⟨fun x hx => by simp at hx, by simp, ?_⟩
    rcases hv with hv | ⟨a', n, c', hv, h1, h2⟩
    · exact .inl ⟨hv, rfl⟩
    · simp only [Value.slice.injEq] at hv
      obtain ⟨rfl, rfl, rfl⟩ := hv
      exact .inr ⟨a', c, rfl, h1, h2, fun j u hj => by simp at hj⟩
  · have h32 : H32 l := fun x hx => by
      obtain ⟨i, hi, rfl⟩ := List.getElem_of_mem hx
      exact (h3 i _ (List.getElem?_eq_getElem hi)).1
    refine ⟨h32, by rw [bvs_length, h32.flat], .inr ⟨_, c, rfl, h1, h2, fun j u hj => ?_⟩⟩
    have hjl : j < l.length * 32 := by
      have := (List.getElem?_eq_some_iff.1 hj).1
      rwa [bvs_length, h32.flat] at this
    obtain ⟨z, hx⟩ : ∃ z, l[j / 32]? = some z := ⟨_, List.getElem?_eq_getElem (show j / 32 < l.length by omega)⟩
    have h4 := (h3 _ _ hx).2
    have h5 := h32.get hx
    obtain ⟨y, hy⟩ : ∃ y, (bvs z)[j % 32]? = some y := ⟨_, List.getElem?_eq_getElem (show j % 32 < (bvs z).length by rw [bvs_length, h5]; exact Nat.mod_lt _ (by decide))⟩
    have h6 := h32.cells hx (j % 32) y hy
    rw [show j / 32 * 32 + j % 32 = j by omega, hj] at h6
    cases h6
    rw [add_at]
    have := h4 _ _ hy
    rw [show off + j = off + j / 32 * 32 + j % 32 by omega]
    exact this

theorem opened_hashes {fuel : Nat} {cs : List Value} {x : DataW H × List MemPlace} (h : DataW.trod enc Try.prog w 0 (fun _ => true) true fuel 22 cs = some x) : ∃ (v : Value) (l : List Bs), cs = [v] ∧ Hs w v l := by
  obtain ⟨v, l, hv, hs⟩ := opened_slice (R := HashAt) Try.underlying22 cellsHash (by decide) (fun fuel cs' y hy _ => by
    obtain ⟨L, rfl, hL⟩ := opened_hash hy
    exact ⟨L, fun b o hat => ⟨hL, hat⟩⟩) h
  refine ⟨v, l, hv, hashes_read ?_ hs⟩
  rcases open_slice Try.underlying22 h with ⟨h0, _⟩ | ⟨a, len, cap, m, n, D, Pl, hcs, hb, hl, hm, hmm, hx, hi⟩
  · rw [hv] at h0; simp at h0; exact .inl h0
  · rw [hv] at hcs; simp at hcs; exact .inr ⟨a, len, cap, hcs, hl, hm⟩

theorem cellsHashes : Try.prog.cellsOf 22 = 1 := by kernel_rfl
end
end Go.Proofs.Ytkbahhnjoidhcaa
