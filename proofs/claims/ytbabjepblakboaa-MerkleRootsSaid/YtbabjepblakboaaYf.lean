/- Merkle: what a path comes to: the walk. -/
import Derived.Test.YtbabjepblakboaaYd
import Derived.Test.YtbabjepblakboaaYe
import Derived.WalkMore
import Derived.Test.YtbabjepblakboaaSlc
namespace Go.Proofs.Ytbabjepblakboaa
set_option linter.unusedVariables false
set_option linter.unusedSimpArgs false
open Go.RowKit Go.Lib

theorem Hs.part {w : World} {a : Option Addr} {n c : Nat} {l : List Bs} (h : Hs w (.slice a n c) l) (hn : n = l.length) (o k : Nat) (ho : o + k ≤ n) :
    Hs w (.slice (if c = o then a else a.map (·.add (o * 32))) k (c - o)) ((l.drop o).take k) := by
  have h1 := h.2
  rw [← hn] at h1
  have h2 := Rd.sub h1 o k ho
  refine ⟨(h.1.drop o).take k, ?_⟩
  rw [List.length_take, List.length_drop, ← hn, show min k (n - o) = k by omega, (h.1.drop o).take_flat, h.1.drop_flat]
  simpa [bvs, List.map_take, List.map_drop] using h2

def mayB (n c : Int) (hs : List Bs) : Bool := okPl n c && (hs.length == sizeM 20 n.toNat c.toNat)
def leadB (n c : Nat) (x : Bs) (hs : List Bs) : Bs := topB c (leadM knotB [] 20 n c (leafB x) hs)

theorem mayB_ok {n c : Int} {hs : List Bs} (h : mayB n c hs = true) : ∃ a b : Nat, n = a ∧ c = b ∧ a < b ∧ b ≤ 1048576 ∧ hs.length = sizeM 20 a b := by
  simp only [mayB, okPl, Bool.and_eq_true, decide_eq_true_eq, beq_iff_eq] at h
  obtain ⟨⟨⟨h1, h2⟩, h3⟩, h4⟩ := h
  obtain ⟨a, rfl⟩ := Int.eq_ofNat_of_zero_le h1
  obtain ⟨b, rfl⟩ := Int.eq_ofNat_of_zero_le (show 0 ≤ c by omega)
  exact ⟨a, b, rfl, rfl, by omega, by omega, by simpa using h4⟩

theorem replicate_bvs : (bvs (List.replicate 32 0)).length = 32 := by simp

set_option maxRecDepth 100000 in
set_option maxHeartbeats 1000000 in
theorem mlead_no (w : World) (x : Bs) (n c : Int) (v : Value) (hs : List Bs) (h : Hs w v hs) (hm : mayB n c hs = false) :
    Calls Try.prog 55 #[.agg (bvs x).toArray, .agg #[.int .i64 n, .int .i64 c, v]] w fun e w' => e = .returned (.tuple #[.agg (bvs (List.replicate 32 0)).toArray, .int .i64 21]) ∧ Below w.heap.size w w' := by
  obtain ⟨a0, c0, rfl⟩ := h.slice
  have CS := Lib.hid (fun w0 => msize_any w0 n c)
  cases hok : okPl n c with
  | false =>
    rw [hok] at CS
    simp only [Bool.false_eq_true, if_false] at CS
    clear h hm hok
    go_enter Try.func55, Try.ntmps55
    go_wp2_with fail
    obtain ⟨w1, h1, k1, b1, s1⟩ := alloc_cb w 24 (bvs x)
    obtain ⟨w2, h2, k2, b2, s2⟩ := alloc_cb w1 92 [.int .i64 n, .int .i64 c, .slice a0 hs.length c0]
    obtain ⟨w3, h3, k3, b3, s3⟩ := alloc_cb w2 24 (bvs (List.replicate 32 0))
    change Code.wp _ _ _ _ (((w.alloc (.cells (bvs x).toArray 24)).alloc (.cells [.int .i64 n, .int .i64 c, .slice a0 hs.length c0].toArray 92)).alloc (.cells (bvs (List.replicate 32 0)).toArray 24))
    rw [← h1, ← h2, ← h3]
    rw [s1] at s2 k2
    rw [s2] at s3 k3
    have k2' := k2.fresh b3
    have hc0 := k2'.cell 0 _ rfl
    have hc1 := k2'.cell 1 _ rfl
    have hc2 := k2'.cell 2 _ rfl
    have B3 := Lib.hid ((b1.tr b2).tr b3)
    have K3 := Lib.hid k3
    clear k2' h1 h2 h3 k1 k2 k3 b1 b2 b3 s1 s2 s3
    go_step3
    go_wp2_with fail
    refine (CS.out _).mono ?_
    rintro e w4 ⟨rfl, rfl⟩
    go_wp2_with (with_reducible refine stopStore 24 ?_)
    refine Stop.go ?_
    refine wpList_store_var rfl 24 (.tmp 4) (.tmp 29) rfl (w.heap.size + 1 + 1) _ rfl _ (bvs (List.replicate 32 0)) rfl K3.out (by simp) (bvs_one _) (by rw [replicate_bvs]; exact infoHash) ?_
    intro wf kf of
    have BF : Hid (Below w.heap.size w wf) := Below.only B3.out of (by omega)
    have KF := Lib.hid kf
    clear kf of
    go_wp2
    rw [Exit.noGoto_ret]
    exact bodyPost_ret (results_cellT rfl _ _ (w.heap.size + 1 + 1) _ _ _ _ rfl KF.out Try.underlying24 rfl (by simp [infoHash])) rfl ⟨rfl, BF.out⟩
  | true =>
    rw [hok] at CS
    simp only [if_true] at CS
    have hne : hs.length ≠ sizeM 20 n.toNat c.toNat := by
      simp only [mayB, hok, Bool.true_and, beq_eq_false_iff_ne] at hm
      exact hm
    obtain ⟨sz, hsz⟩ : ∃ s, s = sizeM 20 n.toNat c.toNat := ⟨_, rfl⟩
    rw [← hsz] at CS hne
    obtain ⟨hl, hhl⟩ : ∃ s, s = hs.length := ⟨_, rfl⟩
    rw [← hhl] at hne ⊢
    have j1 : ¬ ((hl : Int) = (sz : Int)) := by omega
    clear h hm hok hsz hhl hne
    go_enter Try.func55, Try.ntmps55
    go_wp2_with fail
    obtain ⟨w1, h1, k1, b1, s1⟩ := alloc_cb w 24 (bvs x)
    obtain ⟨w2, h2, k2, b2, s2⟩ := alloc_cb w1 92 [.int .i64 n, .int .i64 c, .slice a0 hl c0]
    obtain ⟨w3, h3, k3, b3, s3⟩ := alloc_cb w2 24 (bvs (List.replicate 32 0))
    change Code.wp _ _ _ _ (((w.alloc (.cells (bvs x).toArray 24)).alloc (.cells [.int .i64 n, .int .i64 c, .slice a0 hl c0].toArray 92)).alloc (.cells (bvs (List.replicate 32 0)).toArray 24))
    rw [← h1, ← h2, ← h3]
    rw [s1] at s2 k2
    rw [s2] at s3 k3
    have k2' := k2.fresh b3
    have hc0 := k2'.cell 0 _ rfl
    have hc1 := k2'.cell 1 _ rfl
    have hc2 := k2'.cell 2 _ rfl
    have B3 := Lib.hid ((b1.tr b2).tr b3)
    have K3 := Lib.hid k3
    clear k2' h1 h2 h3 k1 k2 k3 b1 b2 b3 s1 s2 s3
    go_step3
    go_wp2_with fail
    refine (CS.out _).mono ?_
    rintro e w4 ⟨rfl, rfl⟩
    go_wp2_with (with_reducible refine stopStore 24 ?_)
    refine Stop.go ?_
    refine wpList_store_var rfl 24 (.tmp 4) (.tmp 29) rfl (w.heap.size + 1 + 1) _ rfl _ (bvs (List.replicate 32 0)) rfl K3.out (by simp) (bvs_one _) (by rw [replicate_bvs]; exact infoHash) ?_
    intro wf kf of
    have BF : Hid (Below w.heap.size w wf) := Below.only B3.out of (by omega)
    have KF := Lib.hid kf
    clear kf of
    go_wp2
    rw [Exit.noGoto_ret]
    exact bodyPost_ret (results_cellT rfl _ _ (w.heap.size + 1 + 1) _ _ _ _ rfl KF.out Try.underlying24 rfl (by simp [infoHash])) rfl ⟨rfl, BF.out⟩

theorem accL_h32 {n c : Nat} {a : Bs} {hs : List Bs} (ha : a.length = 32) (t : Nat) : (accL knotB [] n c a hs t).1.length = 32 := by
  induction t with
  | zero => exact ha
  | succ t ih =>
    rw [accL, stepL]
    split
    · show (if _ then _ else _ : Bs).length = 32
      split <;> exact knotB_length _ _
    · exact ih

set_option maxRecDepth 100000 in
set_option maxHeartbeats 4000000 in
theorem mlead_ok (w : World) (x : Bs) (n c : Nat) (v : Value) (hs : List Bs) (hx : x.length = 32) (h : Hs w v hs) (hn : n < c) (hc : c ≤ 1048576) (hl : hs.length = sizeM 20 n c) :
    Calls Try.prog 55 #[.agg (bvs x).toArray, .agg #[.int .i64 (n : Int), .int .i64 (c : Int), v]] w fun e w' => e = .returned (.tuple #[.agg (bvs (leadB n c x hs)).toArray, .int .i64 0]) ∧ Below w.heap.size w w' := by
  obtain ⟨a0, c0, rfl⟩ := h.slice
  have CS := fun w0 => msize_ok w0 n c hn hc
  rw [← hl] at CS
  obtain ⟨Z, hZ⟩ : ∃ Z, Z = leadB n c x hs := ⟨_, rfl⟩
  have hZl : Hid (Z.length = 32) := Lib.hid (by rw [hZ]; exact topB_length _ _)
  have hend : ∀ t, cnt c t ≤ 1 → Z = topB c (accL knotB [] n c (leafB x) hs t).1 := fun t h1 => by
    rw [hZ, leadB, accL_end knotB [] t 20 n c (leafB x) hs hn hc hl h1]
  rw [← hZ]
  obtain ⟨N, hN⟩ : ∃ N, N = hs.length := ⟨_, rfl⟩
  rw [← hN] at h CS ⊢
  replace CS := Lib.hid CS
  have HU : Hid (∀ k, (Value.slice a0 N c0).ownBlock = some k → k < w.heap.size ∨ N = 0) := Lib.hid (fun k hk => by
    rcases Nat.eq_zero_or_pos N with h0 | h0
    · exact .inr h0
    · exact .inl (h.own_lt (by rw [← hN]; exact h0) hk))
  have HE := Lib.hid hend
  have HX := Lib.hid hx
  have H := Lib.hid h
  have HB := Lib.hid (And.intro hn (And.intro hc hl))
  have HN := Lib.hid hN
  clear h hx hn hc hl hend hZ hN
  go_enter Try.func55, Try.ntmps55
  go_wp2_with fail
  obtain ⟨w1, h1, k1, b1, s1⟩ := alloc_cb w 24 (bvs x)
  obtain ⟨w2, h2, k2, b2, s2⟩ := alloc_cb w1 92 [.int .i64 n, .int .i64 c, .slice a0 N c0]
  obtain ⟨w3, h3, k3, b3, s3⟩ := alloc_cb w2 24 (bvs (List.replicate 32 0))
  change Code.wp _ _ _ _ (((w.alloc (.cells (bvs x).toArray 24)).alloc (.cells [.int .i64 n, .int .i64 c, .slice a0 N c0].toArray 92)).alloc (.cells (bvs (List.replicate 32 0)).toArray 24))
  rw [← h1, ← h2, ← h3]
  rw [s1] at s2 k2
  rw [s2] at s3 k3
  have k2' := k2.fresh b3
  have hc0 := k2'.cell 0 _ rfl
  have hc1 := k2'.cell 1 _ rfl
  have hc2 := k2'.cell 2 _ rfl
  have B3 := Lib.hid ((b1.tr b2).tr b3)
  have K3 := Lib.hid k3
  have P3 := Lib.hid k2'
  have I3 := Lib.hid ((k1.fresh b2).fresh b3)
  have S3 := Lib.hid s3
  clear k2' h1 h2 h3 k1 k2 k3 b1 b2 b3 s1 s2 s3
  go_step3
  go_wp2_with fail
  refine (CS.out _).mono ?_
  rintro e w4 ⟨rfl, rfl⟩
  clear hc0 hc1
  go_wp2_with (with_reducible refine stopAt 30 ?_)
  refine Stop.go ?_
  refine wpList_load_agg rfl 24 (.tmp 2) rfl (⟨w.heap.size, 0, none⟩) rfl (bvs x) _ (At.block I3.out).load Try.underlying24 rfl (by rw [bvs_length, HX.out]; exact infoHash) ?_
  clear hc2
  go_wp2_with fail
  refine (leaf_any _ x HX.out).mono ?_
  rintro e w5 ⟨rfl, b5⟩
  have B5 := Lib.hid (B3.out.tr b5)
  have K5 := Lib.hid (K3.out.fresh b5)
  have P5 := Lib.hid (P3.out.fresh b5)
  have S5 : Hid (w.heap.size + 3 ≤ w5.heap.size) := Lib.hid (by have := b5.size; have := S3.out; omega)
  clear b5 B3 K3 P3 I3 S3
  go_wp2_with (with_reducible refine stopStore 24 ?_)
  refine Stop.go ?_
  refine wpList_store_var rfl 24 (.tmp 8) (.tmp 31) rfl w5.heap.size _ rfl _ (bvs (leafB x)) rfl (heap_alloc_new w5 _) (by simp [leafB_length x]) (bvs_one _) (by rw [bvs_length, leafB_length x]; exact infoHash) ?_
  intro w6 kw6 ow6
  have bw6 : Below w5.heap.size w5 w6 := Below.only ((Below.refl _ w5).alloc (Nat.le_refl _) _) ow6 (Nat.le_refl _)
  replace kw6 : CB w6 24 w5.heap.size (bvs (leafB x)) := kw6
  clear ow6
  obtain ⟨G, hG⟩ : ∃ G, G = w5.heap.size := ⟨_, rfl⟩
  have S6 : Hid (w.heap.size + 3 ≤ G ∧ G + 1 ≤ w6.heap.size) := Lib.hid ⟨by rw [hG]; exact S5.out, by rw [hG]; exact kw6.lt⟩
  have B6 := Lib.hid (B5.out.tr bw6)
  have K6 := Lib.hid (K5.out.fresh bw6)
  have P6 := Lib.hid (P5.out.fresh bw6)
  rw [← hG] at kw6 ⊢
  have G6 := Lib.hid kw6
  have R6 := Lib.hid (H.out.fresh B6.out)
  clear bw6 kw6 hG K5 P5 B5 S5
  have hc2 := P6.out.cell 2 _ rfl
  go_wp2_with fail
  clear hc2
  go_step3
  go_wp2_with fail
  have hS : Hid (CB w6.drew 92 (w.heap.size + 1) [.int .i64 n, .int .i64 c, .slice a0 N c0]) := Lib.hid P6.out
  refine pl_start 6 rfl (fun w' => CB w' 92 (w.heap.size + 1) [.int .i64 n, .int .i64 c, .slice a0 N c0]) (by kernel_rfl) ?_
  refine pl_take (i := 0) 34 rfl rfl rfl (by kernel_rfl) (by kernel_rfl) (by kernel_rfl) (by simp [Act.put]) hS.out ?_
  apply Exists.intro
  refine And.intro (fun w' hS' => ?_) ?_
  · go_wp2
    exact ⟨trivial, rfl⟩
  refine pl_take (i := 1) 35 rfl rfl rfl (by kernel_rfl) (by kernel_rfl) (by kernel_rfl) (by simp [Act.put]) hS.out ?_
  apply Exists.intro
  refine And.intro (fun w' hS' => ?_) ?_
  · have hc := hS'.cell 0 _ rfl
    clear hS'
    go_wp2
    exact ⟨trivial, rfl⟩
  refine pl_take (i := 2) 36 rfl rfl rfl (by kernel_rfl) (by kernel_rfl) (by kernel_rfl) (by simp [Act.put]) hS.out ?_
  apply Exists.intro
  refine And.intro (fun w' hS' => ?_) ?_
  · go_wp2
    exact ⟨trivial, rfl⟩
  refine pl_take (i := 3) 37 rfl rfl rfl (by kernel_rfl) (by kernel_rfl) (by kernel_rfl) (by simp [Act.put]) hS.out ?_
  apply Exists.intro
  refine And.intro (fun w' hS' => ?_) ?_
  · have hc := hS'.cell 1 _ rfl
    clear hS'
    go_wp2
    exact ⟨trivial, rfl⟩
  refine pl_take (i := 4) 10 rfl rfl rfl (by kernel_rfl) (by kernel_rfl) (by kernel_rfl) (by simp [Act.put]) hS.out ?_
  apply Exists.intro
  refine And.intro (fun w' hS' => ?_) ?_
  · go_wp2
    exact ⟨trivial, rfl⟩
  refine pl_take (i := 5) 11 rfl rfl rfl (by kernel_rfl) (by kernel_rfl) (by kernel_rfl) (by simp [Act.put]) hS.out ?_
  apply Exists.intro
  refine And.intro (fun w' hS' => ?_) ?_
  · go_wp2
    exact ⟨trivial, rfl⟩
  refine pl_done (by kernel_rfl) ?_
  clear hS
  obtain ⟨w7, hw7⟩ : ∃ w7, w7 = w6.drew := ⟨_, rfl⟩
  rw [← hw7]
  have S7 : Hid (w.heap.size + 3 ≤ G ∧ G + 1 ≤ w7.heap.size) := Lib.hid (by rw [hw7]; exact S6.out)
  have B7 : Hid (Below w.heap.size w w7) := Lib.hid (by rw [hw7]; exact B6.out.drew)
  have K7 : Hid (CB w7 24 (w.heap.size + 1 + 1) (bvs (List.replicate 32 0))) := Lib.hid (by rw [hw7]; exact K6.out)
  have P7 : Hid (CB w7 92 (w.heap.size + 1) [.int .i64 n, .int .i64 c, .slice a0 N c0]) := Lib.hid (by rw [hw7]; exact P6.out)
  have G7 : Hid (CB w7 24 G (bvs (leafB x))) := Lib.hid (by rw [hw7]; exact G6.out)
  have R7 : Hid (Hs w7 (.slice a0 N c0) hs) := Lib.hid (by rw [hw7]; exact R6.out.fresh (Below.refl _ _).drew)
  clear hw7 S6 B6 K6 P6 G6 R6
  go_wp2
  go_loopw [9, 10, 11] (fun v9 v10 v11 wr => ∃ t p q : Nat, p = n / 2 ^ t ∧ q = cnt c t ∧ v10 = .int .i64 (p : Int) ∧ v11 = .int .i64 (q : Int) ∧ Hs wr v9 (hs.drop (accS n c t)) ∧
      CB wr 24 (w.heap.size + 1 + 1) (bvs (List.replicate 32 0)) ∧ CB wr 92 (w.heap.size + 1) [.int .i64 n, .int .i64 c, .slice a0 N c0] ∧
      CB wr 24 G (bvs (accL knotB [] n c (leafB x) hs t).1) ∧ (∀ k, v9.ownBlock = some k → k < w.heap.size ∨ N = 0) ∧ G + 1 ≤ wr.heap.size ∧ Below w.heap.size w wr)
    (fun _ _ v _ => (intOf v).toNat)
  case atStart => exact ⟨0, n, c, by simp, rfl, rfl, rfl, R7.out, K7.out, P7.out, G7.out, HU.out, S7.out.2, B7.out⟩
  case round =>
    obtain ⟨t, p, q, hp, hq, rfl, rfl, hr, hk, hpp, hg, ha, hz, hb⟩ := hrel
    have hpq : p < q := by rw [hp, hq]; exact cnt_div n c t HB.out.1
    have hqc : q ≤ c := by rw [hq]; exact cnt_le c t (by have := HB.out.1; omega)
    have bp : (p : Int) ≤ 1048576 := by have := HB.out.2.1; omega
    have bq : (q : Int) ≤ 1048576 := by have := HB.out.2.1; omega
    have h32 := accL_h32 (n := n) (c := c) (hs := hs) (leafB_length x) t
    obtain ⟨A, hA⟩ : ∃ A, A = (accL knotB [] n c (leafB x) hs t).1 := ⟨_, rfl⟩
    rw [← hA] at hg h32
    obtain ⟨m, hm⟩ : ∃ m, m = (hs.drop (accS n c t)).length := ⟨_, rfl⟩
    obtain ⟨a9, c9, rfl⟩ := hr.slice' hm.symm
    have HR := Lib.hid hr
    have HK := Lib.hid hk
    have HPP := Lib.hid hpp
    have HG := Lib.hid hg
    have HA := Lib.hid ha
    have HZ := Lib.hid hz
    have HW := Lib.hid hb
    have HPQ := Lib.hid (And.intro hp (And.intro hq (And.intro hpq hqc)))
    have HAA := Lib.hid (And.intro hA h32)
    have HM := Lib.hid hm
    clear hr hk hpp hg ha hz hb hp hq hqc hA h32 hm
    by_cases h1 : q ≤ 1
    · have j1 : (q : Int) ≤ 1 := by omega
      have hzz := HE.out t (by rw [← HPQ.out.2.1]; exact h1)
      rw [← HAA.out.1] at hzz
      have HZZ := Lib.hid hzz
      have hS : Hid (CB wr.drew 92 (w.heap.size + 1) [.int .i64 n, .int .i64 c, .slice a0 N c0]) := Lib.hid HPP.out
      clear hpq hzz h1
      go_wp2_with fail
      refine pl_start 6 rfl (fun w' => CB w' 92 (w.heap.size + 1) [.int .i64 n, .int .i64 c, .slice a0 N c0]) (by kernel_rfl) ?_
      refine pl_take (i := 0) 69 rfl rfl rfl (by kernel_rfl) (by kernel_rfl) (by kernel_rfl) (by simp [Act.put]) hS.out ?_
      apply Exists.intro
      refine And.intro (fun w' hS' => ?_) ?_
      · go_wp2
        exact ⟨trivial, rfl⟩
      refine pl_take (i := 1) 70 rfl rfl rfl (by kernel_rfl) (by kernel_rfl) (by kernel_rfl) (by simp [Act.put]) hS.out ?_
      apply Exists.intro
      refine And.intro (fun w' hS' => ?_) ?_
      · have hc := hS'.cell 1 _ rfl
        clear hS'
        go_wp2
        exact ⟨trivial, rfl⟩
      refine pl_take (i := 2) 71 rfl rfl rfl (by kernel_rfl) (by kernel_rfl) (by kernel_rfl) (by simp [Act.put]) hS.out ?_
      apply Exists.intro
      refine And.intro (fun w' hS' => ?_) ?_
      · go_wp2
        exact ⟨trivial, rfl⟩
      refine pl_heavy (i := 3) rfl (by kernel_rfl) ?_
      go_wp2_with fail
      refine (top_any _ c (.slice (some ⟨G, 0, none⟩) 32 32) A (by have := HB.out.2.1; omega) (CB.rd32 (show CB wr.drew 24 G (bvs A) from HG.out) HAA.out.2) (by rw [HAA.out.2]; decide)).mono ?_
      rintro e w8 ⟨rfl, b8⟩
      rw [← HZZ.out]
      have B8 := Lib.hid (HW.out.drew.tr b8)
      have S8 := Lib.hid (hS.out.fresh b8)
      have K8 := Lib.hid ((show CB wr.drew 24 (w.heap.size + 1 + 1) (bvs (List.replicate 32 0)) from HK.out).fresh b8)
      clear b8 hS
      go_wp2
      refine And.intro S8.out ?_
      refine pl_heavy (i := 4) rfl (by kernel_rfl) ?_
      refine wpList_store_var rfl 24 (.tmp 4) (.tmp 72) rfl (w.heap.size + 1 + 1) _ rfl _ (bvs Z) rfl K8.out (by simp [hZl.out]) (bvs_one _) (by rw [bvs_length, hZl.out]; exact infoHash) ?_
      intro wf kf of
      have BF : Hid (Below w.heap.size w wf) := Below.only B8.out of (by omega)
      have KF := Lib.hid kf
      clear kf
      have SF : Hid (CB wf 92 (w.heap.size + 1) [.int .i64 n, .int .i64 c, .slice a0 N c0]) := Lib.hid (S8.out.only of (by omega))
      clear of
      go_wp2
      refine And.intro SF.out ?_
      refine pl_heavy (i := 5) rfl (by kernel_rfl) ?_
      go_wp2
      refine And.intro SF.out ?_
      refine pl_done (by kernel_rfl) ?_
      go_wp2
      rw [Exit.noGoto_ret]
      exact bodyPost_ret (results_cellT rfl _ _ (w.heap.size + 1 + 1) _ _ _ _ rfl KF.out Try.underlying24 rfl (by simp [hZl.out, infoHash])) rfl ⟨rfl, BF.out⟩
    · have j1 : ¬ ((q : Int) ≤ 1) := by omega
      have jx := bits_xor1 p (by have := HB.out.2.1; omega)
      obtain ⟨b, hb⟩ : ∃ b, b = bes p := ⟨_, rfl⟩
      rw [← hb] at jx
      have HBs := Lib.hid hb
      have jp := tdiv2 p
      have jq : ((q : Int) + 1).tdiv 2 = (((q + 1) / 2 : Nat) : Int) := by have := tdiv2 (q + 1); rw [← this]; rfl
      clear hb
      by_cases h2 : b < q
      · have j2 : ¬ ((q : Int) ≤ (b : Int)) := by omega
        have ja := bits_and1 p (by have := HB.out.2.1; omega)
        have hml : accS n c t < hs.length := by
          rw [HB.out.2.2]
          exact accS_lt t 20 n c HB.out.1 HB.out.2.1 (by rw [← HPQ.out.1, ← HPQ.out.2.1, ← HBs.out]; exact h2)
        have hm0 : 0 < m := by rw [HM.out, List.length_drop]; omega
        obtain ⟨y, hy⟩ : ∃ y, (hs.drop (accS n c t))[0]? = some y := ⟨_, List.getElem?_eq_getElem (by rw [← HM.out]; exact hm0)⟩
        obtain ⟨ad, c9', he⟩ := HR.out.isSome HM.out.symm hm0
        simp only [Value.slice.injEq, true_and] at he
        obtain ⟨rfl, rfl⟩ := he
        have hy32 := HR.out.1.get hy
        have HY := Lib.hid (And.intro hy hy32)
        have jm : (1 : Int) ≤ (m : Int) := by omega
        have jc : (m : Int) ≤ (c9 : Int) := by
          rcases HR.out.2.2 with ⟨he, _⟩ | ⟨ad', c', he, h1, _, _⟩
          · cases he
          · simp only [Value.slice.injEq, true_and] at he
            obtain ⟨_, _, rfl⟩ := he
            rw [← HM.out] at h1
            omega
        have H2 := Lib.hid h2
        have HML := Lib.hid hml
        have HM0 := Lib.hid hm0
        clear hy hy32 h2 hpq hml hm0
        rcases Nat.mod_two_eq_zero_or_one p with hpar | hpar
        · rw [hpar] at ja
          have HPAR := Lib.hid hpar
          clear hpar
          have hS : Hid (CB wr.drew 24 G (bvs A) ∧ Hs wr.drew (.slice (some ad) m c9) (hs.drop (accS n c t))) := Lib.hid ⟨HG.out, HR.out.fresh (Below.refl _ _).drew⟩
          go_wp2_with fail
          refine pf_start 9 rfl (fun w' => CB w' 24 G (bvs A) ∧ Hs w' (.slice (some ad) m c9) (hs.drop (accS n c t))) (fun i => decide (7 ≤ i)) (by kernel_rfl) ?_
          refine pf_take (i := 0) 43 rfl rfl rfl (by kernel_rfl) (by kernel_rfl) (by kernel_rfl) (by kernel_rfl) (by kernel_rfl) (by simp [Act.put]) hS.out ?_
          apply Exists.intro
          refine And.intro (fun w' hS' => ?_) ?_
          · refine wpList_load_agg rfl 24 (.tmp 8) rfl (⟨G, 0, none⟩) rfl (bvs A) _ ((At.block hS'.1).load) Try.underlying24 rfl (by rw [bvs_length, HAA.out.2]; exact infoHash) ?_
            clear hS'
            go_wp2
            exact ⟨trivial, rfl⟩
          refine pf_take (i := 1) 44 rfl rfl rfl (by kernel_rfl) (by kernel_rfl) (by kernel_rfl) (by kernel_rfl) (by kernel_rfl) (by simp [Act.put]) hS.out ?_
          apply Exists.intro
          refine And.intro (fun w' hS' => ?_) ?_
          · clear hS'
            go_wp2
            exact ⟨trivial, rfl⟩
          refine pf_take (i := 2) 45 rfl rfl rfl (by kernel_rfl) (by kernel_rfl) (by kernel_rfl) (by kernel_rfl) (by kernel_rfl) (by simp [Act.put]) hS.out ?_
          apply Exists.intro
          refine And.intro (fun w' hS' => ?_) ?_
          · clear hS'
            go_wp2
            exact ⟨trivial, rfl⟩
          refine pf_take (i := 3) 46 rfl rfl rfl (by kernel_rfl) (by kernel_rfl) (by kernel_rfl) (by kernel_rfl) (by kernel_rfl) (by simp [Act.put]) hS.out ?_
          apply Exists.intro
          refine And.intro (fun w' hS' => ?_) ?_
          · refine wpList_load_agg rfl 24 (.tmp 45) rfl (ad) rfl (bvs y) _ (by have := hS'.2.elem' HY.out.1; simpa [Addr.add] using this) Try.underlying24 rfl (by rw [bvs_length, HY.out.2]; exact infoHash) ?_
            clear hS'
            go_wp2
            exact ⟨trivial, rfl⟩
          refine pf_free (i := 5) 48 rfl rfl rfl (by kernel_rfl) (by kernel_rfl) (by kernel_rfl) rfl (by simp [Act.put]) (fun _ => hS.out) ?_
          apply Exists.intro
          refine And.intro (fun w' => ?_) ?_
          · go_wp2
            exact ⟨trivial, rfl⟩
          obtain ⟨X, hX⟩ : ∃ X : Option Addr, X = if c9 = 1 then some ad else (some ad).map (·.add (1 * 32)) := ⟨_, rfl⟩
          have hX' := Lib.hid hX
          clear hX
          refine pf_free (i := 6) 49 rfl rfl rfl (by kernel_rfl) (by kernel_rfl) (by kernel_rfl) rfl (by simp [Act.put]) (fun _ => hS.out) ?_
          apply Exists.intro
          refine And.intro (fun w' => ?_) ?_
          · skip
            refine wpList_slice rfl 22 (.tmp 48) _ _ _ rfl (.slice X _ _) (by rw [hX'.out]; exact run_slice_from Try.underlying22 infoHash (some ad) m c9 1 (by omega)) ?_
            go_wp2
            exact ⟨trivial, rfl⟩
          refine pf_heavy (i := 4) rfl (by kernel_rfl) ?_
          go_wp2_with fail
          refine (knot_any _ A y HAA.out.2 HY.out.2).mono ?_
          rintro e w8 ⟨rfl, b8⟩
          have B8 : Hid (Below w.heap.size w w8) := HW.out.drew.tr b8
          have bb : Below wr.heap.size wr w8 := (Below.refl _ wr).drew.tr b8
          have S8 := Lib.hid (And.intro (hS.out.1.fresh b8) (hS.out.2.fresh b8))
          have K8 := Lib.hid (HK.out.fresh bb)
          have P8 := Lib.hid (HPP.out.fresh bb)
          have Z8 : Hid (G + 1 ≤ w8.heap.size) := Lib.hid (Nat.le_trans HZ.out bb.size)
          clear b8 bb hS
          go_wp2
          refine And.intro S8.out ?_
          refine pf_last (i := 7) rfl (by kernel_rfl) (by kernel_rfl) ?_
          refine wpList_store_var rfl 24 (.tmp 8) (.tmp 47) rfl G _ rfl _ (bvs (knotB A y)) rfl S8.out.1 (by simp [HAA.out.2, knotB_length]) (bvs_one _) (by rw [bvs_length, knotB_length]; exact infoHash) ?_
          intro w9 k9 o9
          have B9 : Hid (Below w.heap.size w w9) := Lib.hid (Below.only B8.out o9 (by have := S7.out; omega))
          have K9 := Lib.hid (K8.out.only o9 (by have := S7.out; omega))
          have P9 := Lib.hid (P8.out.only o9 (by have := S7.out; omega))
          have G9 : Hid (CB w9 24 G (bvs (knotB A y))) := Lib.hid k9
          have Z9 : Hid (G + 1 ≤ w9.heap.size) := Lib.hid (by rw [o9.size]; exact Z8.out)
          have R9 : Hid (Hs w9 (.slice X (m - 1) (c9 - 1)) (hs.drop (accS n c (t + 1))) ∧ ∀ k, (Value.slice X (m - 1) (c9 - 1)).ownBlock = some k → k < w.heap.size ∨ N = 0) := Lib.hid (by
            have hown : ∀ k, (Value.slice X (m - 1) (c9 - 1)).ownBlock = some k → k < w.heap.size ∨ N = 0 := fun k hk => HA.out k (by rw [hX'.out] at hk; exact ownBlock_part hk)
            refine ⟨?_, hown⟩
            have h1 := (S8.out.2).part HM.out 1 (m - 1) (by have := HM0.out; omega)
            rw [← hX'.out, List.drop_drop, List.take_of_length_le (by rw [List.length_drop]; have := HM.out; rw [List.length_drop] at this; omega)] at h1
            rw [accS, if_pos (by rw [← HPQ.out.1, ← HPQ.out.2.1, ← HBs.out]; exact H2.out), Nat.add_comm]
            rw [Nat.add_comm]
            refine h1.only o9 (fun e => ?_)
            rcases hown G e with h2 | h2
            · have := S7.out; omega
            · have := HML.out; have := HN.out; omega)
          have A9 : Hid ((accL knotB [] n c (leafB x) hs (t + 1)).1 = knotB A y) := Lib.hid (by
            rw [accL, stepL, if_pos (by rw [← HPQ.out.1, ← HPQ.out.2.1, ← HBs.out]; exact H2.out), ← HPQ.out.1, if_neg (by have := HPAR.out; omega), ← HAA.out.1, accL_rest]
            have h1 := HY.out.1
            rw [List.headD_eq_head?_getD, List.head?_eq_getElem?, h1]
            rfl)
          clear k9 o9 S8 B8 K8 P8 Z8
          go_wp2
          refine pf_last (i := 8) rfl (by kernel_rfl) (by kernel_rfl) ?_
          go_wp2
          refine pf_done (by kernel_rfl) ?_
          go_wp2
          go_roundw
          case rel => exact ⟨t + 1, p / 2, (q + 1) / 2, by rw [div_step, ← HPQ.out.1], by rw [cnt, ← HPQ.out.2.1], by go_num, by go_num, R9.out.1, K9.out, P9.out, by rw [A9.out]; exact G9.out, R9.out.2, Z9.out, B9.out⟩
          case measure => simp only [intOf]; have := H2.out; omega
        · rw [hpar] at ja
          have HPAR := Lib.hid hpar
          clear hpar
          have hS : Hid (CB wr.drew 24 G (bvs A) ∧ Hs wr.drew (.slice (some ad) m c9) (hs.drop (accS n c t))) := Lib.hid ⟨HG.out, HR.out.fresh (Below.refl _ _).drew⟩
          go_wp2_with fail
          refine pf_start 9 rfl (fun w' => CB w' 24 G (bvs A) ∧ Hs w' (.slice (some ad) m c9) (hs.drop (accS n c t))) (fun i => decide (7 ≤ i)) (by kernel_rfl) ?_
          refine pf_take (i := 0) 62 rfl rfl rfl (by kernel_rfl) (by kernel_rfl) (by kernel_rfl) (by kernel_rfl) (by kernel_rfl) (by simp [Act.put]) hS.out ?_
          apply Exists.intro
          refine And.intro (fun w' hS' => ?_) ?_
          · clear hS'
            go_wp2
            exact ⟨trivial, rfl⟩
          refine pf_take (i := 1) 63 rfl rfl rfl (by kernel_rfl) (by kernel_rfl) (by kernel_rfl) (by kernel_rfl) (by kernel_rfl) (by simp [Act.put]) hS.out ?_
          apply Exists.intro
          refine And.intro (fun w' hS' => ?_) ?_
          · clear hS'
            go_wp2
            exact ⟨trivial, rfl⟩
          refine pf_take (i := 2) 64 rfl rfl rfl (by kernel_rfl) (by kernel_rfl) (by kernel_rfl) (by kernel_rfl) (by kernel_rfl) (by simp [Act.put]) hS.out ?_
          apply Exists.intro
          refine And.intro (fun w' hS' => ?_) ?_
          · refine wpList_load_agg rfl 24 (.tmp 63) rfl (ad) rfl (bvs y) _ (by have := hS'.2.elem' HY.out.1; simpa [Addr.add] using this) Try.underlying24 rfl (by rw [bvs_length, HY.out.2]; exact infoHash) ?_
            clear hS'
            go_wp2
            exact ⟨trivial, rfl⟩
          refine pf_take (i := 3) 65 rfl rfl rfl (by kernel_rfl) (by kernel_rfl) (by kernel_rfl) (by kernel_rfl) (by kernel_rfl) (by simp [Act.put]) hS.out ?_
          apply Exists.intro
          refine And.intro (fun w' hS' => ?_) ?_
          · refine wpList_load_agg rfl 24 (.tmp 8) rfl (⟨G, 0, none⟩) rfl (bvs A) _ ((At.block hS'.1).load) Try.underlying24 rfl (by rw [bvs_length, HAA.out.2]; exact infoHash) ?_
            clear hS'
            go_wp2
            exact ⟨trivial, rfl⟩
          refine pf_free (i := 5) 67 rfl rfl rfl (by kernel_rfl) (by kernel_rfl) (by kernel_rfl) rfl (by simp [Act.put]) (fun _ => hS.out) ?_
          apply Exists.intro
          refine And.intro (fun w' => ?_) ?_
          · go_wp2
            exact ⟨trivial, rfl⟩
          obtain ⟨X, hX⟩ : ∃ X : Option Addr, X = if c9 = 1 then some ad else (some ad).map (·.add (1 * 32)) := ⟨_, rfl⟩
          have hX' := Lib.hid hX
          clear hX
          refine pf_free (i := 6) 68 rfl rfl rfl (by kernel_rfl) (by kernel_rfl) (by kernel_rfl) rfl (by simp [Act.put]) (fun _ => hS.out) ?_
          apply Exists.intro
          refine And.intro (fun w' => ?_) ?_
          · skip
            refine wpList_slice rfl 22 (.tmp 67) _ _ _ rfl (.slice X _ _) (by rw [hX'.out]; exact run_slice_from Try.underlying22 infoHash (some ad) m c9 1 (by omega)) ?_
            go_wp2
            exact ⟨trivial, rfl⟩
          refine pf_heavy (i := 4) rfl (by kernel_rfl) ?_
          go_wp2_with fail
          refine (knot_any _ y A HY.out.2 HAA.out.2).mono ?_
          rintro e w8 ⟨rfl, b8⟩
          have B8 : Hid (Below w.heap.size w w8) := HW.out.drew.tr b8
          have bb : Below wr.heap.size wr w8 := (Below.refl _ wr).drew.tr b8
          have S8 := Lib.hid (And.intro (hS.out.1.fresh b8) (hS.out.2.fresh b8))
          have K8 := Lib.hid (HK.out.fresh bb)
          have P8 := Lib.hid (HPP.out.fresh bb)
          have Z8 : Hid (G + 1 ≤ w8.heap.size) := Lib.hid (Nat.le_trans HZ.out bb.size)
          clear b8 bb hS
          go_wp2
          refine And.intro S8.out ?_
          refine pf_last (i := 7) rfl (by kernel_rfl) (by kernel_rfl) ?_
          refine wpList_store_var rfl 24 (.tmp 8) (.tmp 66) rfl G _ rfl _ (bvs (knotB y A)) rfl S8.out.1 (by simp [HAA.out.2, knotB_length]) (bvs_one _) (by rw [bvs_length, knotB_length]; exact infoHash) ?_
          intro w9 k9 o9
          have B9 : Hid (Below w.heap.size w w9) := Lib.hid (Below.only B8.out o9 (by have := S7.out; omega))
          have K9 := Lib.hid (K8.out.only o9 (by have := S7.out; omega))
          have P9 := Lib.hid (P8.out.only o9 (by have := S7.out; omega))
          have G9 : Hid (CB w9 24 G (bvs (knotB y A))) := Lib.hid k9
          have Z9 : Hid (G + 1 ≤ w9.heap.size) := Lib.hid (by rw [o9.size]; exact Z8.out)
          have R9 : Hid (Hs w9 (.slice X (m - 1) (c9 - 1)) (hs.drop (accS n c (t + 1))) ∧ ∀ k, (Value.slice X (m - 1) (c9 - 1)).ownBlock = some k → k < w.heap.size ∨ N = 0) := Lib.hid (by
            have hown : ∀ k, (Value.slice X (m - 1) (c9 - 1)).ownBlock = some k → k < w.heap.size ∨ N = 0 := fun k hk => HA.out k (by rw [hX'.out] at hk; exact ownBlock_part hk)
            refine ⟨?_, hown⟩
            have h1 := (S8.out.2).part HM.out 1 (m - 1) (by have := HM0.out; omega)
            rw [← hX'.out, List.drop_drop, List.take_of_length_le (by rw [List.length_drop]; have := HM.out; rw [List.length_drop] at this; omega)] at h1
            rw [accS, if_pos (by rw [← HPQ.out.1, ← HPQ.out.2.1, ← HBs.out]; exact H2.out), Nat.add_comm]
            rw [Nat.add_comm]
            refine h1.only o9 (fun e => ?_)
            rcases hown G e with h2 | h2
            · have := S7.out; omega
            · have := HML.out; have := HN.out; omega)
          have A9 : Hid ((accL knotB [] n c (leafB x) hs (t + 1)).1 = knotB y A) := Lib.hid (by
            rw [accL, stepL, if_pos (by rw [← HPQ.out.1, ← HPQ.out.2.1, ← HBs.out]; exact H2.out), ← HPQ.out.1, if_pos HPAR.out, ← HAA.out.1, accL_rest]
            have h1 := HY.out.1
            rw [List.headD_eq_head?_getD, List.head?_eq_getElem?, h1]
            rfl)
          clear k9 o9 S8 B8 K8 P8 Z8
          go_wp2
          refine pf_last (i := 8) rfl (by kernel_rfl) (by kernel_rfl) ?_
          go_wp2
          refine pf_done (by kernel_rfl) ?_
          go_wp2
          go_roundw
          case rel => exact ⟨t + 1, p / 2, (q + 1) / 2, by rw [div_step, ← HPQ.out.1], by rw [cnt, ← HPQ.out.2.1], by go_num, by go_num, R9.out.1, K9.out, P9.out, by rw [A9.out]; exact G9.out, R9.out.2, Z9.out, B9.out⟩
          case measure => simp only [intOf]; have := H2.out; omega
      · have j2 : (q : Int) ≤ (b : Int) := by omega
        have hns : ¬ bes (n / 2 ^ t) < cnt c t := by rw [← HPQ.out.1, ← HPQ.out.2.1, ← HBs.out]; exact h2
        have R9 : Hid (Hs wr (.slice a9 m c9) (hs.drop (accS n c (t + 1)))) := Lib.hid (by
          rw [accS, if_neg hns]
          exact HR.out)
        have A9 : Hid ((accL knotB [] n c (leafB x) hs (t + 1)).1 = A) := Lib.hid (by
          rw [accL, stepL, if_neg hns, HAA.out.1])
        have H1 := Lib.hid h1
        clear hns hpq
        go_wp2
        go_roundw
        case rel => exact ⟨t + 1, p / 2, (q + 1) / 2, by rw [div_step, ← HPQ.out.1], by rw [cnt, ← HPQ.out.2.1], by go_num, by go_num, R9.out, HK.out, HPP.out, by rw [A9.out]; exact HG.out, HA.out, HZ.out, HW.out⟩
        case measure => simp only [intOf]; have := H1.out; omega

end Go.Proofs.Ytbabjepblakboaa
