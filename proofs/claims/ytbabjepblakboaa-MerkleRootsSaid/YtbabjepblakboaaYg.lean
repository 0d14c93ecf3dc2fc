/- Merkle: whether a path checks: the walk. -/
import Derived.Test.YtbabjepblakboaaYf
namespace Go.Proofs.Ytbabjepblakboaa
set_option linter.unusedVariables false
set_option linter.unusedSimpArgs false
open Go.RowKit Go.Lib

def zero32B : Bs := List.replicate 32 0
theorem zero32B_length : zero32B.length = 32 := by simp [zero32B]

def leadR (n c : Int) (x : Bs) (hs : List Bs) : Bs := if mayB n c hs then leadB n.toNat c.toNat x hs else zero32B
def leadE (n c : Int) (hs : List Bs) : Int := if mayB n c hs then 0 else 21
def checkE (root x : Bs) (n c : Int) (hs : List Bs) : Int := if mayB n c hs && leadB n.toNat c.toNat x hs == root then 0 else 21

theorem leadR_length (n c : Int) (x : Bs) (hs : List Bs) : (leadR n c x hs).length = 32 := by
  unfold leadR
  split
  · exact topB_length _ _
  · exact zero32B_length

theorem mlead_any (w : World) (x : Bs) (n c : Int) (v : Value) (hs : List Bs) (hx : x.length = 32) (h : Hs w v hs) :
    Calls Try.prog 55 #[.agg (bvs x).toArray, .agg #[.int .i64 n, .int .i64 c, v]] w fun e w' => e = .returned (.tuple #[.agg (bvs (leadR n c x hs)).toArray, .int .i64 (leadE n c hs)]) ∧ Below w.heap.size w w' := by
  unfold leadR leadE
  cases hm : mayB n c hs with
  | false =>
    exact mlead_no w x n c v hs h hm
  | true =>
    obtain ⟨a, b, rfl, rfl, h1, h2, h3⟩ := mayB_ok hm
    exact mlead_ok w x a b v hs hx h h1 h2 h3

theorem hash_ne (w : World) (xs ys : List UInt8) (hx : xs.length = 32) (hy : ys.length = 32) :
    (binOp .neq 24 (.agg (bvs xs).toArray) (.agg (bvs ys).toArray)).run Try.prog w = .ok (.bool (xs != ys)) w := by
  have h := hash_eq w xs ys hx hy
  rw [run_eql_struct] at h
  rw [run_neq_struct]
  revert h
  generalize (Op.equalIn 10000 24 (.agg (bvs xs).toArray) (.agg (bvs ys).toArray)).run Try.prog w = r
  intro h
  cases r with
  | ok b w1 =>
    simp only [Result.andThen_ok, Sem.run_pure, Result.ok.injEq, Value.bool.injEq] at h
    obtain ⟨rfl, rfl⟩ := h
    simp [bne]
  | halt x w1 => cases h

set_option maxRecDepth 100000 in
set_option maxHeartbeats 1000000 in
theorem mcheck_any (w : World) (r x : Bs) (n c : Int) (v : Value) (hs : List Bs) (hr : r.length = 32) (hx : x.length = 32) (h : Hs w v hs) :
    Calls Try.prog 56 #[.agg (bvs r).toArray, .agg (bvs x).toArray, .agg #[.int .i64 n, .int .i64 c, v]] w fun e w' => e = .returned (.int .i64 (checkE r x n c hs)) ∧ Below w.heap.size w w' := by
  obtain ⟨a0, c0, rfl⟩ := h.slice
  obtain ⟨N, hN⟩ : ∃ N, N = hs.length := ⟨_, rfl⟩
  rw [← hN] at h ⊢
  obtain ⟨L, hL⟩ : ∃ L, L = leadR n c x hs := ⟨_, rfl⟩
  obtain ⟨E, hE⟩ : ∃ E, E = leadE n c hs := ⟨_, rfl⟩
  obtain ⟨C, hC⟩ : ∃ C, C = checkE r x n c hs := ⟨_, rfl⟩
  have CL := fun w0 h0 => mlead_any w0 x n c (.slice a0 N c0) hs hx h0
  rw [← hL, ← hE] at CL
  rw [← hC]
  have hLl : L.length = 32 := by rw [hL]; exact leadR_length _ _ _ _
  have hcase : E = 21 ∧ C = 21 ∨ E = 0 ∧ C = if L != r then 21 else 0 := by
    rw [hC, hE, hL]
    unfold checkE leadE leadR
    cases mayB n c hs with
    | false => left; simp
    | true =>
      right
      refine ⟨rfl, ?_⟩
      simp only [Bool.true_and, if_true]
      cases hb : leadB n.toNat c.toNat x hs == r <;> simp [bne, hb]
  replace CL := Lib.hid CL
  have H := Lib.hid h
  have HL := Lib.hid (And.intro hLl (And.intro hr hx))
  clear h hN hL hE hC hLl hr hx
  go_enter Try.func56, Try.ntmps56
  go_wp2_with (with_reducible refine stopAt 10 ?_)
  refine Stop.go ?_
  obtain ⟨w1, h1, k1, b1, s1⟩ := alloc_cb w 24 (bvs r)
  obtain ⟨w2, h2, k2, b2, s2⟩ := alloc_cb w1 24 (bvs x)
  obtain ⟨w3, h3, k3, b3, s3⟩ := alloc_cb w2 92 [.int .i64 n, .int .i64 c, .slice a0 N c0]
  change wpList _ _ _ _ _ (((w.alloc (.cells (bvs r).toArray 24)).alloc (.cells (bvs x).toArray 24)).alloc (.cells [.int .i64 n, .int .i64 c, .slice a0 N c0].toArray 92))
  rw [← h1, ← h2, ← h3]
  rw [s1] at s2 k2
  rw [s2] at s3 k3
  have R3 := Lib.hid ((k1.fresh b2).fresh b3)
  have I3 := Lib.hid (k2.fresh b3)
  have P3 := Lib.hid k3
  have B3 := Lib.hid ((b1.tr b2).tr b3)
  clear h1 h2 h3 k1 k2 k3 b1 b2 b3 s1 s2
  refine wpList_load_agg rfl 24 (.tmp 4) rfl (⟨w.heap.size + 1, 0, none⟩) rfl (bvs x) _ (At.block I3.out).load Try.underlying24 rfl (by rw [bvs_length, HL.out.2.2]; exact infoHash) ?_
  go_wp2_with (with_reducible refine stopAt 11 ?_)
  refine Stop.go ?_
  refine wpList_load_agg rfl 92 (.tmp 5) rfl ⟨w.heap.size + 1 + 1, 0, none⟩ rfl [.int .i64 n, .int .i64 c, .slice a0 N c0] _ (At.block P3.out).load Try.underlying92 rfl (by exact infoPath) ?_
  go_wp2_with fail
  refine (CL.out _ (H.out.fresh B3.out)).mono ?_
  rintro e w4 ⟨rfl, b4⟩
  have R4 := Lib.hid (R3.out.fresh b4)
  have B4 := Lib.hid (B3.out.tr b4)
  clear b4 R3 B3 I3 P3
  go_wp2_with (with_reducible refine stopStore 24 ?_)
  refine Stop.go ?_
  refine wpList_store_var rfl 24 (.tmp 7) (.tmp 13) rfl w4.heap.size _ rfl _ (bvs L) rfl (heap_alloc_new w4 _) (by simp [HL.out.1]) (bvs_one _) (by rw [bvs_length, HL.out.1]; exact infoHash) ?_
  intro w5 kw5 ow5
  have bw5 : Below w4.heap.size w4 w5 := Below.only ((Below.refl _ w4).alloc (Nat.le_refl _) _) ow5 (Nat.le_refl _)
  replace kw5 : CB w5 24 w4.heap.size (bvs L) := kw5
  clear ow5
  have R5 := Lib.hid (R4.out.fresh bw5)
  have B5 := Lib.hid (B4.out.tr bw5)
  have L5 := Lib.hid kw5
  clear bw5 kw5 R4 B4
  rcases hcase with ⟨rfl, rfl⟩ | ⟨rfl, hc⟩
  · go_wp2
    go_ret
    exact ⟨rfl, B5.out⟩
  · have HC := Lib.hid hc
    clear hc
    go_wp2_with (with_reducible refine stopAt 18 ?_)
    refine Stop.go ?_
    refine wpList_unguard' rfl ?_
    refine wpList_load_agg rfl 24 (.tmp 7) rfl (⟨w4.heap.size, 0, none⟩) rfl (bvs L) _ (At.block L5.out).load Try.underlying24 rfl (by rw [bvs_length, HL.out.1]; exact infoHash) ?_
    go_wp2_with (with_reducible refine stopAt 19 ?_)
    refine Stop.go ?_
    refine wpList_unguard' rfl ?_
    refine wpList_load_agg rfl 24 (.tmp 3) rfl (⟨w.heap.size, 0, none⟩) rfl (bvs r) _ (At.block R5.out).load Try.underlying24 rfl (by rw [bvs_length, HL.out.2.1]; exact infoHash) ?_
    go_wp2_with (with_reducible refine stopAt 20 ?_)
    refine Stop.go ?_
    refine wpList_unguard' rfl ?_
    refine wpList_bin rfl .neq 24 24 (.tmp 18) (.tmp 19) rfl (.bool (L != r)) (eqGuard_agg _ _ _ _ _ _ _ (by kernel_rfl)) (hash_ne w5 L r HL.out.1 HL.out.2.1) ?_
    cases hb : (L != r)
    · rw [hb] at HC
      go_wp2
      go_ret
      exact ⟨by rw [HC.out]; rfl, B5.out⟩
    · rw [hb] at HC
      go_wp2
      go_ret
      exact ⟨by rw [HC.out]; rfl, B5.out⟩
end Go.Proofs.Ytbabjepblakboaa
