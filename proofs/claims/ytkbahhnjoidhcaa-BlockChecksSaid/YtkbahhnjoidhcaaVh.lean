/- A transaction's bytes, its id: the walks; the reference's id. -/
import Derived.Test.YtkbahhnjoidhcaaVi
import Derived.OwnWalk
namespace Go.Proofs.Ytkbahhnjoidhcaa
set_option linter.unusedVariables false
set_option linter.unusedSimpArgs false
open Go.RowKit

theorem Ins.ok {F : Nat → Prop} {w : World} {v : Value} {l : List InD} (h : Ins F w v l) : ∀ x ∈ l, InOk x := by
  obtain ⟨_, _, h, _⟩ := h
  exact h

theorem check_shape {x : TxD} (h : checkE x = 0) : x.ins.length ≤ 64 ∧ x.outs.length ≤ 64 ∧ Short x.ins := by
  unfold checkE at h
  by_cases hs : okShape x
  · exact ⟨hs.1.2, hs.2.1.2, hs.2.2.1⟩
  · rw [if_neg hs] at h
    cases h

theorem packB_le {x : TxD} (h1 : ∀ y ∈ x.ins, InOk y) (h2 : ∀ y ∈ x.outs, OutOk y) (hs : x.ins.length ≤ 64 ∧ x.outs.length ≤ 64 ∧ Short x.ins) : (packB x).length ≤ 30000 := by
  have a1 := flatMap_len inpB 296 x.ins (fun i hi => by rw [inpB_len (h1 i hi)]; have := hs.2.2 i hi; omega)
  have a2 := flatMap_len outpB 40 x.outs (fun o ho => by rw [outpB_len (h2 o ho)]; exact Nat.le_refl _)
  have a3 : x.ins.length * 296 ≤ 64 * 296 := Nat.mul_le_mul_right _ hs.1
  have a4 : x.outs.length * 40 ≤ 64 * 40 := Nat.mul_le_mul_right _ hs.2.1
  unfold packB
  simp only [List.length_append, le_len]
  omega

/-- A transaction's id. -/
def idB (x : TxD) : Bs := if checkE x = 0 then shaB (textB [116, 120] (packB x)) else List.replicate 32 0

theorem rmay_any (F : Nat → Prop) (w : World) (x : TxD) (u : Value × Value) (hi : Ins F w u.1 x.ins) (ho : Outs F w u.2 x.outs) (hwf : TxWf x) :
    Calls Try.prog 53 #[.agg (txC (x, u)).toArray] w fun e w' => e = .returned (.bool (decide (checkE x = 0))) ∧ Below w.heap.size w w' := by
  obtain ⟨u1, u2⟩ := u
  change Calls _ _ #[.agg #[u1, u2, .int .u64 x.nonce]] _ _
  obtain ⟨a0, c0, he⟩ := hi.slice
  change u1 = _ at he
  subst he
  obtain ⟨a2, c2, he⟩ := ho.slice
  change u2 = _ at he
  subst he
  obtain ⟨N, hN⟩ : ∃ N, N = x.ins.length := ⟨_, rfl⟩
  obtain ⟨K, hK⟩ : ∃ K, K = x.outs.length := ⟨_, rfl⟩
  rw [← hN] at hi
  rw [← hK] at ho
  rw [← hN, ← hK]
  have HI := Lib.hid hi
  have HO := Lib.hid ho
  have HW := Lib.hid hwf
  have C := fun w' (hb : Below w.heap.size w w') => rcheck_any F w' x (.slice a0 x.ins.length c0, .slice a2 x.outs.length c2) (by rw [← hN]; exact hi.fresh hb) (by rw [← hK]; exact ho.fresh hb) hwf
  obtain ⟨R, hR⟩ : ∃ R, R = checkE x := ⟨_, rfl⟩
  rw [← hR, ← hN, ← hK] at C
  rw [← hR]
  replace C := Lib.hid C
  obtain ⟨D, hD⟩ : ∃ D, D = decide (R = 0) := ⟨_, rfl⟩
  rw [← hD]
  have HD := Lib.hid hD
  clear hR hN hK hi ho hwf hD
  go_enter Try.func53, Try.ntmps53
  go_wp2_with (with_reducible refine stopAt 3 ?_)
  refine Stop.go ?_
  obtain ⟨w1, h1, k1, b1, s1⟩ := alloc_cb w 37 [.slice a0 N c0, .slice a2 K c2, .int .u64 x.nonce]
  change wpList _ _ _ _ _ (w.alloc (.cells [.slice a0 N c0, .slice a2 K c2, .int .u64 x.nonce].toArray 37))
  rw [← h1]
  have K1 : Hid (CB w1 37 w.heap.size [.slice a0 N c0, .slice a2 K c2, .int .u64 x.nonce]) := Lib.hid k1
  have BB := Lib.hid b1
  clear h1 k1 b1 s1
  refine wpList_load_agg rfl 37 (.tmp 1) rfl ⟨w.heap.size, 0, none⟩ rfl [.slice a0 N c0, .slice a2 K c2, .int .u64 x.nonce] _ (At.block K1.out).load Try.underlying37 rfl (by exact infoTx) ?_
  go_wp2_with fail
  refine (C.out w1 BB.out).mono ?_
  rintro e w2 ⟨rfl, b2⟩
  have Q := Lib.hid (BB.out.tr b2)
  clear b2 C
  by_cases h : R = 0
  · have hd : Hid (D = true) := Lib.hid (by rw [HD.out, decide_eq_true h])
    rw [h]
    clear h
    go_wp2
    go_ret
    exact ⟨by rw [hd.out] <;> rfl, Q.out⟩
  · have hb : (R == 0) = false := by rw [beq_eq_false_iff_ne]; exact h
    have hd : Hid (D = false) := Lib.hid (by rw [HD.out, decide_eq_false h])
    clear h
    go_wp2
    go_ret
    exact ⟨by rw [hd.out] <;> rfl, Q.out⟩

set_option maxRecDepth 100000 in
set_option maxHeartbeats 2000000 in
theorem id_any (F : Nat → Prop) (w : World) (x : TxD) (u : Value × Value) (hi : Ins F w u.1 x.ins) (ho : Outs F w u.2 x.outs) (hwf : TxWf x) :
    Calls Try.prog 21 #[.agg (txC (x, u)).toArray] w fun e w' => e = .returned (.agg (bvs (idB x)).toArray) ∧ Below w.heap.size w w' := by
  obtain ⟨u1, u2⟩ := u
  change Calls _ _ #[.agg #[u1, u2, .int .u64 x.nonce]] _ _
  obtain ⟨a0, c0, he⟩ := hi.slice
  change u1 = _ at he
  subst he
  obtain ⟨a2, c2, he⟩ := ho.slice
  change u2 = _ at he
  subst he
  obtain ⟨N, hN⟩ : ∃ N, N = x.ins.length := ⟨_, rfl⟩
  obtain ⟨K, hK⟩ : ∃ K, K = x.outs.length := ⟨_, rfl⟩
  rw [← hN] at hi
  rw [← hK] at ho
  rw [← hN, ← hK]
  have HI := Lib.hid hi
  have HO := Lib.hid ho
  have HW := Lib.hid hwf
  have HOK := Lib.hid (And.intro hi.ok ho.1)
  have HI0 : Hid (Ins F w ((Value.slice a0 N c0, Value.slice a2 K c2) : Value × Value).1 x.ins) := HI
  have HO0 : Hid (Outs F w ((Value.slice a0 N c0, Value.slice a2 K c2) : Value × Value).2 x.outs) := HO
  have C := fun w' (hb : Below w.heap.size w w') => may_any F w' x (.slice a0 N c0, .slice a2 K c2) (HI0.out.fresh hb) (HO0.out.fresh hb) hwf
  obtain ⟨Z, hZ⟩ : ∃ Z, Z = idB x := ⟨_, rfl⟩
  rw [← hZ]
  by_cases h0 : checkE x = 0
  · have HSH := Lib.hid (check_shape h0)
    have HPL := Lib.hid (packB_le HOK.out.1 HOK.out.2 (check_shape h0))
    rw [decide_eq_true h0] at C
    have HZ : Hid (Z = shaB (textB [116, 120] (packB x))) := Lib.hid (by rw [hZ, idB, if_pos h0])
    have HZl : Hid (Z.length = 32) := Lib.hid (by rw [HZ.out]; exact shaB_length _)
    replace C := Lib.hid C
    clear hZ hN hK hi ho hwf h0
    go_enter Try.func21, Try.ntmps21
    go_wp2_with (with_reducible refine stopAt 3 ?_)
    refine Stop.go ?_
    obtain ⟨w1, h1, k1, b1, s1⟩ := alloc_cb w 37 [.slice a0 N c0, .slice a2 K c2, .int .u64 x.nonce]
    obtain ⟨w2, h2, k2, b2, s2⟩ := alloc_cb w1 24 (bvs (List.replicate 32 0))
    change wpList _ _ _ _ _ ((w.alloc (.cells [.slice a0 N c0, .slice a2 K c2, .int .u64 x.nonce].toArray 37)).alloc (.cells (bvs (List.replicate 32 0)).toArray 24))
    rw [← h1, ← h2]
    rw [s1] at k2
    have K1 : Hid (CB w2 37 w.heap.size [.slice a0 N c0, .slice a2 K c2, .int .u64 x.nonce]) := Lib.hid (k1.fresh b2)
    have K2 := Lib.hid k2
    have BB := Lib.hid (b1.tr b2)
    clear h1 k1 b1 s1 h2 k2 b2 s2
    refine wpList_load_agg rfl 37 (.tmp 1) rfl ⟨w.heap.size, 0, none⟩ rfl [.slice a0 N c0, .slice a2 K c2, .int .u64 x.nonce] _ (At.block K1.out).load Try.underlying37 rfl (by exact infoTx) ?_
    go_wp2_with fail
    refine (C.out w2 BB.out).mono ?_
    rintro e w3 ⟨rfl, b3⟩
    replace BB := Lib.hid (BB.out.tr b3)
    replace K1 := Lib.hid (K1.out.fresh b3)
    replace K2 := Lib.hid (K2.out.fresh b3)
    clear b3 C
    go_wp2_with (with_reducible refine stopAt 7 ?_)
    refine Stop.go ?_
    refine wpList_load_agg rfl 37 (.tmp 1) rfl ⟨w.heap.size, 0, none⟩ rfl [.slice a0 N c0, .slice a2 K c2, .int .u64 x.nonce] _ (At.block K1.out).load Try.underlying37 rfl (by exact infoTx) ?_
    go_wp2_with fail
    refine (pack_any F w3 x (.slice a0 N c0, .slice a2 K c2) (HI0.out.fresh BB.out) (HO0.out.fresh BB.out) HW.out HSH.out).mono ?_
    rintro e w4 ⟨v4, rfl, o4, b4⟩
    obtain ⟨a4, c4, rfl⟩ := (Rd.of_own o4).slice
    obtain ⟨n4, hn4⟩ : ∃ n, n = (packB x).length := ⟨_, rfl⟩
    have R4 := Lib.hid (Rd.of_own o4)
    replace BB := Lib.hid (BB.out.tr b4)
    replace K2 := Lib.hid (K2.out.fresh b4)
    clear o4 b4
    go_wp2_with fail
    obtain ⟨w5, h5, p5, b5, s5⟩ := alloc_one w4 42 (.slice a4 (packB x).length c4) (packB x) R4.out
    change Calls _ _ _ (w4.alloc (.cells #[.slice a4 (packB x).length c4] 42)) _
    rw [← h5]
    have C5 := tag_any w5 _ [116, 120] [packB x] p5 (by simp) (by simpa using (by have := HPL.out; omega)) (by simp)
    rw [show shaB (textB [116, 120] ([packB x] : List Bs).flatten) = Z by rw [HZ.out, List.flatten_cons, List.flatten_nil, List.append_nil]] at C5
    replace BB := Lib.hid (BB.out.tr b5)
    replace K2 := Lib.hid (K2.out.fresh b5)
    clear h5 p5 b5 s5
    refine (C5).mono ?_
    rintro e w6 ⟨rfl, b6⟩
    replace BB := Lib.hid (BB.out.tr b6)
    replace K2 := Lib.hid (K2.out.fresh b6)
    clear b6 C5
    go_wp2_with (with_reducible refine stopStore 24 ?_)
    refine Stop.go ?_
    refine wpList_store_var rfl 24 (.tmp 2) (.tmp 10) rfl (w.heap.size + 1) _ rfl _ (bvs Z) rfl K2.out (by simp [HZl.out]) (bvs_one _) (by rw [bvs_length, HZl.out]; exact infoHash) ?_
    intro wf kf of
    have BF : Hid (Below w.heap.size w wf) := Below.only BB.out of (by omega)
    have KF := Lib.hid kf
    clear kf of
    go_wp2
    exact bodyPost_ret (results_cell1 rfl _ _ (w.heap.size + 1) _ _ _ _ rfl KF.out Try.underlying24 rfl (by simp [HZl.out, infoHash])) rfl ⟨rfl, BF.out⟩
  · rw [decide_eq_false h0] at C
    have HZ : Hid (Z = List.replicate 32 0) := Lib.hid (by rw [hZ, idB, if_neg h0])
    have HZl : Hid (Z.length = 32) := Lib.hid (by rw [HZ.out]; simp)
    rw [HZ.out]
    replace C := Lib.hid C
    clear hZ hN hK hi ho hwf h0
    go_enter Try.func21, Try.ntmps21
    go_wp2_with (with_reducible refine stopAt 3 ?_)
    refine Stop.go ?_
    obtain ⟨w1, h1, k1, b1, s1⟩ := alloc_cb w 37 [.slice a0 N c0, .slice a2 K c2, .int .u64 x.nonce]
    obtain ⟨w2, h2, k2, b2, s2⟩ := alloc_cb w1 24 (bvs (List.replicate 32 0))
    change wpList _ _ _ _ _ ((w.alloc (.cells [.slice a0 N c0, .slice a2 K c2, .int .u64 x.nonce].toArray 37)).alloc (.cells (bvs (List.replicate 32 0)).toArray 24))
    rw [← h1, ← h2]
    rw [s1] at k2
    have K1 : Hid (CB w2 37 w.heap.size [.slice a0 N c0, .slice a2 K c2, .int .u64 x.nonce]) := Lib.hid (k1.fresh b2)
    have K2 := Lib.hid k2
    have BB := Lib.hid (b1.tr b2)
    clear h1 k1 b1 s1 h2 k2 b2 s2
    refine wpList_load_agg rfl 37 (.tmp 1) rfl ⟨w.heap.size, 0, none⟩ rfl [.slice a0 N c0, .slice a2 K c2, .int .u64 x.nonce] _ (At.block K1.out).load Try.underlying37 rfl (by exact infoTx) ?_
    go_wp2_with fail
    refine (C.out w2 BB.out).mono ?_
    rintro e w3 ⟨rfl, b3⟩
    replace BB := Lib.hid (BB.out.tr b3)
    replace K2 := Lib.hid (K2.out.fresh b3)
    clear b3 C
    have HZ0 : Hid ((List.replicate 32 (0 : UInt8)).length = 32) := Lib.hid (by simp)
    go_wp2_with (with_reducible refine stopStore 24 ?_)
    refine Stop.go ?_
    refine wpList_store_var rfl 24 (.tmp 2) (.tmp 6) rfl (w.heap.size + 1) _ rfl _ (bvs (List.replicate 32 (0 : UInt8))) rfl K2.out (by simp [HZ0.out]) (bvs_one _) (by rw [bvs_length, HZ0.out]; exact infoHash) ?_
    intro wf kf of
    have BF : Hid (Below w.heap.size w wf) := Below.only BB.out of (by omega)
    have KF := Lib.hid kf
    clear kf of
    go_wp2
    exact bodyPost_ret (results_cell1 rfl _ _ (w.heap.size + 1) _ _ _ _ rfl KF.out Try.underlying24 rfl (by simp [HZ0.out, infoHash])) rfl ⟨rfl, BF.out⟩

set_option maxRecDepth 100000 in
set_option maxHeartbeats 2000000 in
theorem rid_any (F : Nat → Prop) (w : World) (x : TxD) (u : Value × Value) (hi : Ins F w u.1 x.ins) (ho : Outs F w u.2 x.outs) (hwf : TxWf x) :
    Calls Try.prog 22 #[.agg (txC (x, u)).toArray] w fun e w' => e = .returned (.agg (bvs (idB x)).toArray) ∧ Below w.heap.size w w' := by
  obtain ⟨u1, u2⟩ := u
  change Calls _ _ #[.agg #[u1, u2, .int .u64 x.nonce]] _ _
  obtain ⟨a0, c0, he⟩ := hi.slice
  change u1 = _ at he
  subst he
  obtain ⟨a2, c2, he⟩ := ho.slice
  change u2 = _ at he
  subst he
  obtain ⟨N, hN⟩ : ∃ N, N = x.ins.length := ⟨_, rfl⟩
  obtain ⟨K, hK⟩ : ∃ K, K = x.outs.length := ⟨_, rfl⟩
  rw [← hN] at hi
  rw [← hK] at ho
  rw [← hN, ← hK]
  have HI := Lib.hid hi
  have HO := Lib.hid ho
  have HW := Lib.hid hwf
  have HOK := Lib.hid (And.intro hi.ok ho.1)
  have HI0 : Hid (Ins F w ((Value.slice a0 N c0, Value.slice a2 K c2) : Value × Value).1 x.ins) := HI
  have HO0 : Hid (Outs F w ((Value.slice a0 N c0, Value.slice a2 K c2) : Value × Value).2 x.outs) := HO
  have C := fun w' (hb : Below w.heap.size w w') => rmay_any F w' x (.slice a0 N c0, .slice a2 K c2) (HI0.out.fresh hb) (HO0.out.fresh hb) hwf
  obtain ⟨Z, hZ⟩ : ∃ Z, Z = idB x := ⟨_, rfl⟩
  rw [← hZ]
  by_cases h0 : checkE x = 0
  · have HSH := Lib.hid (check_shape h0)
    have HPL := Lib.hid (packB_le HOK.out.1 HOK.out.2 (check_shape h0))
    rw [decide_eq_true h0] at C
    have HZ : Hid (Z = shaB (textB [116, 120] (packB x))) := Lib.hid (by rw [hZ, idB, if_pos h0])
    have HZl : Hid (Z.length = 32) := Lib.hid (by rw [HZ.out]; exact shaB_length _)
    replace C := Lib.hid C
    clear hZ hN hK hi ho hwf h0
    go_enter Try.func22, Try.ntmps22
    go_wp2_with (with_reducible refine stopAt 3 ?_)
    refine Stop.go ?_
    obtain ⟨w1, h1, k1, b1, s1⟩ := alloc_cb w 37 [.slice a0 N c0, .slice a2 K c2, .int .u64 x.nonce]
    obtain ⟨w2, h2, k2, b2, s2⟩ := alloc_cb w1 24 (bvs (List.replicate 32 0))
    change wpList _ _ _ _ _ ((w.alloc (.cells [.slice a0 N c0, .slice a2 K c2, .int .u64 x.nonce].toArray 37)).alloc (.cells (bvs (List.replicate 32 0)).toArray 24))
    rw [← h1, ← h2]
    rw [s1] at k2
    have K1 : Hid (CB w2 37 w.heap.size [.slice a0 N c0, .slice a2 K c2, .int .u64 x.nonce]) := Lib.hid (k1.fresh b2)
    have K2 := Lib.hid k2
    have BB := Lib.hid (b1.tr b2)
    clear h1 k1 b1 s1 h2 k2 b2 s2
    refine wpList_load_agg rfl 37 (.tmp 1) rfl ⟨w.heap.size, 0, none⟩ rfl [.slice a0 N c0, .slice a2 K c2, .int .u64 x.nonce] _ (At.block K1.out).load Try.underlying37 rfl (by exact infoTx) ?_
    go_wp2_with fail
    refine (C.out w2 BB.out).mono ?_
    rintro e w3 ⟨rfl, b3⟩
    replace BB := Lib.hid (BB.out.tr b3)
    replace K1 := Lib.hid (K1.out.fresh b3)
    replace K2 := Lib.hid (K2.out.fresh b3)
    clear b3 C
    go_wp2_with (with_reducible refine stopAt 7 ?_)
    refine Stop.go ?_
    refine wpList_load_agg rfl 37 (.tmp 1) rfl ⟨w.heap.size, 0, none⟩ rfl [.slice a0 N c0, .slice a2 K c2, .int .u64 x.nonce] _ (At.block K1.out).load Try.underlying37 rfl (by exact infoTx) ?_
    go_wp2_with fail
    refine (rpack_any F w3 x (.slice a0 N c0, .slice a2 K c2) (HI0.out.fresh BB.out) (HO0.out.fresh BB.out) HW.out HSH.out).mono ?_
    rintro e w4 ⟨v4, rfl, o4, b4⟩
    obtain ⟨a4, c4, rfl⟩ := (Rd.of_own o4).slice
    obtain ⟨n4, hn4⟩ : ∃ n, n = (packB x).length := ⟨_, rfl⟩
    have R4 := Lib.hid (Rd.of_own o4)
    replace BB := Lib.hid (BB.out.tr b4)
    replace K2 := Lib.hid (K2.out.fresh b4)
    clear o4 b4
    have C5 := rtag_any w4 (.slice a4 (packB x).length c4) [116, 120] (packB x) R4.out (by have := HPL.out; omega) (by simp)
    rw [show shaB (textB [116, 120] (packB x)) = Z by rw [HZ.out], ← hn4] at C5
    replace C5 := Lib.hid C5
    rw [← hn4]
    clear hn4 R4
    go_wp2_with fail
    refine (C5.out).mono ?_
    rintro e w6 ⟨rfl, b6⟩
    replace BB := Lib.hid (BB.out.tr b6)
    replace K2 := Lib.hid (K2.out.fresh b6)
    clear b6 C5
    go_wp2_with (with_reducible refine stopStore 24 ?_)
    refine Stop.go ?_
    refine wpList_store_var rfl 24 (.tmp 2) (.tmp 9) rfl (w.heap.size + 1) _ rfl _ (bvs Z) rfl K2.out (by simp [HZl.out]) (bvs_one _) (by rw [bvs_length, HZl.out]; exact infoHash) ?_
    intro wf kf of
    have BF : Hid (Below w.heap.size w wf) := Below.only BB.out of (by omega)
    have KF := Lib.hid kf
    clear kf of
    go_wp2
    exact bodyPost_ret (results_cell1 rfl _ _ (w.heap.size + 1) _ _ _ _ rfl KF.out Try.underlying24 rfl (by simp [HZl.out, infoHash])) rfl ⟨rfl, BF.out⟩
  · rw [decide_eq_false h0] at C
    have HZ : Hid (Z = List.replicate 32 0) := Lib.hid (by rw [hZ, idB, if_neg h0])
    have HZl : Hid (Z.length = 32) := Lib.hid (by rw [HZ.out]; simp)
    rw [HZ.out]
    replace C := Lib.hid C
    clear hZ hN hK hi ho hwf h0
    go_enter Try.func22, Try.ntmps22
    go_wp2_with (with_reducible refine stopAt 3 ?_)
    refine Stop.go ?_
    obtain ⟨w1, h1, k1, b1, s1⟩ := alloc_cb w 37 [.slice a0 N c0, .slice a2 K c2, .int .u64 x.nonce]
    obtain ⟨w2, h2, k2, b2, s2⟩ := alloc_cb w1 24 (bvs (List.replicate 32 0))
    change wpList _ _ _ _ _ ((w.alloc (.cells [.slice a0 N c0, .slice a2 K c2, .int .u64 x.nonce].toArray 37)).alloc (.cells (bvs (List.replicate 32 0)).toArray 24))
    rw [← h1, ← h2]
    rw [s1] at k2
    have K1 : Hid (CB w2 37 w.heap.size [.slice a0 N c0, .slice a2 K c2, .int .u64 x.nonce]) := Lib.hid (k1.fresh b2)
    have K2 := Lib.hid k2
    have BB := Lib.hid (b1.tr b2)
    clear h1 k1 b1 s1 h2 k2 b2 s2
    refine wpList_load_agg rfl 37 (.tmp 1) rfl ⟨w.heap.size, 0, none⟩ rfl [.slice a0 N c0, .slice a2 K c2, .int .u64 x.nonce] _ (At.block K1.out).load Try.underlying37 rfl (by exact infoTx) ?_
    go_wp2_with fail
    refine (C.out w2 BB.out).mono ?_
    rintro e w3 ⟨rfl, b3⟩
    replace BB := Lib.hid (BB.out.tr b3)
    replace K2 := Lib.hid (K2.out.fresh b3)
    clear b3 C
    have HZ0 : Hid ((List.replicate 32 (0 : UInt8)).length = 32) := Lib.hid (by simp)
    go_wp2_with (with_reducible refine stopStore 24 ?_)
    refine Stop.go ?_
    refine wpList_store_var rfl 24 (.tmp 2) (.tmp 6) rfl (w.heap.size + 1) _ rfl _ (bvs (List.replicate 32 (0 : UInt8))) rfl K2.out (by simp [HZ0.out]) (bvs_one _) (by rw [bvs_length, HZ0.out]; exact infoHash) ?_
    intro wf kf of
    have BF : Hid (Below w.heap.size w wf) := Below.only BB.out of (by omega)
    have KF := Lib.hid kf
    clear kf of
    go_wp2
    exact bodyPost_ret (results_cell1 rfl _ _ (w.heap.size + 1) _ _ _ _ rfl KF.out Try.underlying24 rfl (by simp [HZ0.out, infoHash])) rfl ⟨rfl, BF.out⟩

end Go.Proofs.Ytkbahhnjoidhcaa
