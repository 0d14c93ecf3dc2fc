/- Law TxChecks: the walk. -/
import Derived.Test.YtkbahhnjoidhcaaVk
import Derived.Test.YtkbahhnjoidhcaaXo
namespace Go.Proofs.Ytkbahhnjoidhcaa
set_option linter.unusedVariables false
set_option linter.unusedSimpArgs false
open Go.RowKit

theorem msumE_cases (l : List Int) : msumE l = 0 ∨ msumE l = 5 := by
  unfold msumE
  cases msumF 0 l with
  | none => exact .inr rfl
  | some n => exact .inl rfl

theorem checkE_cases (x : TxD) : checkE x = 0 ∨ checkE x = 2 ∨ checkE x = 5 := by
  unfold checkE
  by_cases h : okShape x
  · rw [if_pos h]
    by_cases h2 : ∃ o ∈ x.outs, o.amt = 0
    · rw [if_pos h2]; exact .inr (.inr rfl)
    · rw [if_neg h2]
      rcases msumE_cases (amts x) with e | e
      · exact .inl e
      · exact .inr (.inr e)
  · rw [if_neg h]; exact .inr (.inl rfl)

theorem idB_len (x : TxD) : (idB x).length = 32 := by
  unfold idB
  split
  · exact shaB_length _
  · simp

theorem int_guard (w : World) (op : BinOp) (x y : Operand) (a b : Int) : (eqGuard op 3 x y (.int .i64 a) (.int .i64 b)).run Try.prog w = .ok () w := by
  cases op <;> kernel_rfl
theorem int_neq (w : World) (R : Int) : (binOp .neq 3 (.int .i64 R) (.int .i64 R)).run Try.prog w = .ok (.bool false) w := by
  have h : (R != R) = false := by simp
  have e : (binOp .neq 3 (.int .i64 R) (.int .i64 R)).run Try.prog w = .ok (.bool (R != R)) w := by kernel_rfl
  rw [e, h]
theorem int_eq0 (w : World) (R : Int) : (binOp .eql 3 (.int .i64 R) (.int .i64 0)).run Try.prog w = .ok (.bool (decide (R = 0))) w := by
  have h : (R == 0) = decide (R = 0) := by rw [Bool.eq_iff_iff]; simp
  have e : (binOp .eql 3 (.int .i64 R) (.int .i64 0)).run Try.prog w = .ok (.bool (R == 0)) w := by kernel_rfl
  rw [e, h]
theorem bool_guardn (w : World) (x y : Operand) {B C : Bool} : (eqGuard .neq 4 x y (.bool B) (.bool C)).run Try.prog w = .ok () w := by
  kernel_rfl
theorem bool_neq (w : World) (B : Bool) : (binOp .neq 4 (.bool B) (.bool B)).run Try.prog w = .ok (.bool false) w := by
  cases B <;> kernel_rfl

theorem str_eql (w : World) (X : List UInt8) : (binOp .eql 9 (.string ⟨X.toArray⟩) (.string ⟨X.toArray⟩)).run Try.prog w = .ok (.bool true) w := by
  have e : ∀ Y : List UInt8, (⟨Y.toArray⟩ : ByteArray).toList = Y := fun Y => by simp
  have h : (binOp .eql 9 (.string ⟨X.toArray⟩) (.string ⟨X.toArray⟩)).run Try.prog w = .ok (.bool (X == X)) w := by
    simp only [binOp, Op.stringOp, e]
    rfl
  rw [h]
  simp

/-- One transaction, as a slice. -/
theorem tx_one (w : World) (F : Nat → Prop) (x : TxD) (u : Value × Value) (hi : Ins F w u.1 x.ins) (ho : Outs F w u.2 x.outs) :
    ∃ w', w' = w.alloc (.cells (txC (x, u)).toArray 37) ∧ Txs (fun _ => True) w' (.slice (some ⟨w.heap.size, 0, none⟩) 1 1) [x] ∧ Below w.heap.size w w' := by
  have b : Below w.heap.size w (w.alloc (.cells (txC (x, u)).toArray 37)) := (Below.refl _ w).alloc (Nat.le_refl _) _
  refine ⟨_, rfl, ⟨[u], rfl, ⟨⟨rfl, .inr ⟨_, _, rfl, Nat.le_refl _, by decide, fun j c hj => ?_⟩⟩, fun _ _ => trivial⟩, fun i y t hy ht => ?_⟩, b⟩
  · rw [add_at, Nat.zero_add]
    exact (CB.new w 37 (txC (x, u))).cell j c (by simpa using hj)
  · match i, hy, ht with
    | 0, hy, ht => simp at hy ht; subst hy ht; exact ⟨(hi.fresh b).mono (fun _ _ => trivial), (ho.fresh b).mono (fun _ _ => trivial)⟩
    | n + 1, hy, _ => simp at hy

set_option maxRecDepth 100000 in
set_option maxHeartbeats 8000000 in
theorem txchecks_R (F : Nat → Prop) (w : World) (x : TxD) (u : Value × Value) (hi : Ins F w u.1 x.ins) (ho : Outs F w u.2 x.outs) (hwf : TxWf x) (R : Int) (hR : checkE x = R) (hR0 : R = 0 ∨ R = 2 ∨ R = 5) :
    Calls Try.prog 4 #[.agg (txC (x, u)).toArray] w fun e w' => e = .returned (.bool true) ∧ Below w.heap.size w w' := by
  obtain ⟨u1, u2⟩ := u
  change Calls _ _ #[.agg #[u1, u2, .int .u64 x.nonce]] _ _
  obtain ⟨a0, c0, he⟩ := hi.slice
  change u1 = _ at he
  subst he
  obtain ⟨a2, c2, he⟩ := ho.slice
  change u2 = _ at he
  subst he
  obtain ⟨N, hN⟩ : ∃ N, N = x.ins.length := ⟨_, rfl⟩
  obtain ⟨K, hK⟩ : ∃ K, K = x.outs.length := ⟨_, rfl⟩
  rw [← hN] at hi
  rw [← hK] at ho
  rw [← hN, ← hK]
  have HI := Lib.hid hi
  have HO := Lib.hid ho
  have HW := Lib.hid hwf
  have HI0 : Hid (Ins F w ((Value.slice a0 N c0, Value.slice a2 K c2) : Value × Value).1 x.ins) := HI
  have HO0 : Hid (Outs F w ((Value.slice a0 N c0, Value.slice a2 K c2) : Value × Value).2 x.outs) := HO
  have HR := Lib.hid hR
  clear hN hK hi ho hwf hR
  go_enter Try.func4, Try.ntmps4
  go_wp2_with (with_reducible refine stopAt 6 ?_)
  refine Stop.go ?_
  obtain ⟨w1, h1, k1, b1, s1⟩ := alloc_cb w 37 [.slice a0 N c0, .slice a2 K c2, .int .u64 x.nonce]
  change wpList _ _ _ _ _ (w.alloc (.cells [.slice a0 N c0, .slice a2 K c2, .int .u64 x.nonce].toArray 37))
  rw [← h1]
  have K1 : Hid (CB w1 37 w.heap.size [.slice a0 N c0, .slice a2 K c2, .int .u64 x.nonce]) := Lib.hid k1
  have BB := Lib.hid b1
  clear h1 k1 b1 s1
  refine wpList_load_agg rfl 37 (.tmp 1) rfl ⟨w.heap.size, 0, none⟩ rfl [.slice a0 N c0, .slice a2 K c2, .int .u64 x.nonce] _ (At.block K1.out).load Try.underlying37 rfl (by exact infoTx) ?_
  go_wp2_with fail
  obtain ⟨w2, h2, t2, b2⟩ := tx_one w1 F x (.slice a0 N c0, .slice a2 K c2) (HI0.out.fresh BB.out) (HO0.out.fresh BB.out)
  change Calls _ _ _ (w1.alloc (.cells (txC (x, (Value.slice a0 N c0, Value.slice a2 K c2))).toArray 37)) _
  rw [← h2]
  replace BB := Lib.hid (BB.out.tr b2)
  replace K1 := Lib.hid (K1.out.fresh b2)
  have T2 := Lib.hid t2
  clear h2 t2 b2
  refine (much5_any (fun _ => True) w2 _ [x] 1 T2.out).mono ?_
  rintro e w3 ⟨⟨Bm, rfl⟩, b3⟩
  replace BB := Lib.hid (BB.out.tr b3)
  replace K1 := Lib.hid (K1.out.fresh b3)
  clear b3 T2
  cases Bm
  rotate_left
  · go_wp2_with fail
    refine (known5_any w3).mono ?_
    rintro e w5 ⟨rfl, b5⟩
    have BF := Lib.hid (BB.out.tr b5)
    clear b5
    go_wp2
    go_ret
    exact ⟨rfl, BF.out⟩
  obtain ⟨vb, hvb⟩ : ∃ vb : Value, vb = vb := ⟨.bool true, rfl⟩
  clear vb hvb
  have C : Hid (Calls Try.prog 16 #[.agg (txC (x, (Value.slice a0 N c0, Value.slice a2 K c2))).toArray] w3 fun e w' => ∃ (a : Option Addr) (n c : Nat), e = .returned (.tuple #[.slice a n c, .int .i64 R]) ∧ (R = 0 → n = (packB x).length ∧ w'.ownsRow w3.heap.size 5 1 (.slice a n c) n (bvs (packB x))) ∧ (R ≠ 0 → n = 0) ∧ Below w3.heap.size w3 w') := Lib.hid (by
    by_cases h0 : R = 0
    · refine (txbytes_ok F w3 x (.slice a0 N c0, .slice a2 K c2) (HI0.out.fresh BB.out) (HO0.out.fresh BB.out) HW.out (by rw [HR.out, h0])).mono ?_
      rintro e w' ⟨v', rfl, ov, b⟩
      obtain ⟨a, c, rfl⟩ := (Rd.of_own ov).slice
      exact ⟨a, _, c, by rw [h0], fun _ => ⟨rfl, ov⟩, fun h => absurd h0 h, b⟩
    · refine (txbytes_no F w3 x (.slice a0 N c0, .slice a2 K c2) R (HI0.out.fresh BB.out) (HO0.out.fresh BB.out) HW.out HR.out h0).mono ?_
      rintro e w' ⟨rfl, b⟩
      exact ⟨none, 0, 0, rfl, fun h => absurd h h0, fun _ => rfl, b⟩)
  go_wp2_with (with_reducible refine stopAt 11 ?_)
  refine Stop.go ?_
  refine wpList_load_agg rfl 37 (.tmp 1) rfl ⟨w.heap.size, 0, none⟩ rfl [.slice a0 N c0, .slice a2 K c2, .int .u64 x.nonce] _ (At.block K1.out).load Try.underlying37 rfl (by exact infoTx) ?_
  go_wp2_with fail
  refine (C.out).mono ?_
  rintro e w4 ⟨ab, nb, cb, rfl, hyes, hno, b4⟩
  have HBY := Lib.hid (And.intro hyes hno)
  replace BB := Lib.hid (BB.out.tr b4)
  replace K1 := Lib.hid (K1.out.fresh b4)
  clear hyes hno b4 C
  go_wp2_with (with_reducible refine stopAt 15 ?_)
  refine Stop.go ?_
  refine wpList_load_agg rfl 37 (.tmp 1) rfl ⟨w.heap.size, 0, none⟩ rfl [.slice a0 N c0, .slice a2 K c2, .int .u64 x.nonce] _ (At.block K1.out).load Try.underlying37 rfl (by exact infoTx) ?_
  have C := rcheck_any F w4 x (.slice a0 N c0, .slice a2 K c2) (HI0.out.fresh BB.out) (HO0.out.fresh BB.out) HW.out
  rw [HR.out] at C
  replace C := Lib.hid C
  go_wp2_with fail
  refine (C.out).mono ?_
  rintro e w5 ⟨rfl, b5⟩
  have OB : Hid (R = 0 → nb = (packB x).length ∧ Rd w5 1 (.slice ab nb cb) nb (bvs (packB x))) := Lib.hid (fun h => ⟨(HBY.out.1 h).1, (Rd.of_own (HBY.out.1 h).2).fresh b5⟩)
  have ON := Lib.hid HBY.out.2
  replace BB := Lib.hid (BB.out.tr b5)
  replace K1 := Lib.hid (K1.out.fresh b5)
  clear b5 C HBY
  go_wp2_with fail
  have hS : Hid (CB w5.drew 37 w.heap.size [.slice a0 N c0, .slice a2 K c2, .int .u64 x.nonce]) := Lib.hid K1.out.drew
  have bd : Below w5.heap.size w5 w5.drew := (Below.refl _ _).drew
  replace BB := Lib.hid (BB.out.tr bd)
  replace OB : Hid (R = 0 → nb = (packB x).length ∧ Rd w5.drew 1 (.slice ab nb cb) nb (bvs (packB x))) := Lib.hid (fun h => ⟨(OB.out h).1, (OB.out h).2.fresh bd⟩)
  obtain ⟨w6, hw6⟩ : ∃ w6, w6 = w5.drew := ⟨_, rfl⟩
  refine pl_start 25 rfl (fun w' => CB w' 37 w.heap.size [.slice a0 N c0, .slice a2 K c2, .int .u64 x.nonce]) (by kernel_rfl) ?_
  rw [← hw6] at hS BB OB ⊢
  clear hw6 bd K1
  obtain ⟨D, hD⟩ : ∃ D, D = decide (R = 0) := ⟨_, rfl⟩
  have HD := Lib.hid hD
  clear hD
  refine pl_take (i := 0) 17 rfl rfl rfl (by kernel_rfl) (by kernel_rfl) (by kernel_rfl) (by simp [Act.put]) hS.out ?_
  apply Exists.intro
  refine And.intro (fun w' hS' => ?_) ?_
  · skip
    refine wpList_load_agg rfl 37 (.tmp 1) rfl ⟨w.heap.size, 0, none⟩ rfl [.slice a0 N c0, .slice a2 K c2, .int .u64 x.nonce] _ (At.block hS').load Try.underlying37 rfl (by exact infoTx) ?_
    clear hS'
    go_wp2
    first
      | exact ⟨trivial, rfl⟩
      | exact rfl
  have C := check_any F w6 x (.slice a0 N c0, .slice a2 K c2) (HI0.out.fresh BB.out) (HO0.out.fresh BB.out) HW.out
  rw [HR.out] at C
  replace C := Lib.hid C
  refine pl_take (i := 3) 20 rfl rfl rfl (by kernel_rfl) (by kernel_rfl) (by kernel_rfl) (by simp [Act.put]) hS.out ?_
  apply Exists.intro
  refine And.intro (fun w' hS' => ?_) ?_
  · go_wp2
    first
      | exact ⟨trivial, rfl⟩
      | exact rfl
  refine pl_heavy (i := 1) rfl (by kernel_rfl) ?_
  skip
  go_wp2_with fail
  refine (C.out).mono ?_
  rintro e w7 ⟨rfl, bq⟩
  replace hS := Lib.hid (hS.out.fresh bq)
  replace BB := Lib.hid (BB.out.tr bq)
  replace OB : Hid (R = 0 → nb = (packB x).length ∧ Rd w7 1 (.slice ab nb cb) nb (bvs (packB x))) := Lib.hid (fun h => ⟨(OB.out h).1, (OB.out h).2.fresh bq⟩)
  clear bq
  go_wp2
  refine And.intro hS.out ?_
  clear C
  refine pl_heavy (i := 2) rfl (by kernel_rfl) ?_
  skip
  go_wp2_with fail
  refine (num5_any w7 R).mono ?_
  rintro e wq ⟨rfl, rfl⟩
  go_wp2
  refine And.intro hS.out ?_
  refine pl_take (i := 4) 21 rfl rfl rfl (by kernel_rfl) (by kernel_rfl) (by kernel_rfl) (by simp [Act.put]) hS.out ?_
  apply Exists.intro
  refine And.intro (fun w' hS' => ?_) ?_
  · skip
    refine wpList_bin rfl .neq 3 3 (.tmp 19) (.tmp 20) rfl (.bool false) (int_guard _ _ _ _ _ _) (int_neq _ _) ?_
    clear hS'
    go_wp2
    exact ⟨trivial, rfl⟩
  refine pl_take (i := 5) 22 rfl rfl rfl (by kernel_rfl) (by kernel_rfl) (by kernel_rfl) (by simp [Act.put]) hS.out ?_
  apply Exists.intro
  refine And.intro (fun w' hS' => ?_) ?_
  · go_wp2
    first
      | exact ⟨trivial, rfl⟩
      | exact rfl
  refine pl_take (i := 6) 23 rfl rfl rfl (by kernel_rfl) (by kernel_rfl) (by kernel_rfl) (by simp [Act.put]) hS.out ?_
  apply Exists.intro
  refine And.intro (fun w' hS' => ?_) ?_
  · refine wpList_unguard' rfl ?_
    refine wpList_load_agg rfl 37 (.tmp 1) rfl ⟨w.heap.size, 0, none⟩ rfl [.slice a0 N c0, .slice a2 K c2, .int .u64 x.nonce] _ (At.block hS').load Try.underlying37 rfl (by exact infoTx) ?_
    clear hS'
    go_wp2
    first
      | exact ⟨trivial, rfl⟩
      | exact rfl
  have C := may_any F w7 x (.slice a0 N c0, .slice a2 K c2) (HI0.out.fresh BB.out) (HO0.out.fresh BB.out) HW.out
  rw [HR.out, ← HD.out] at C
  replace C := Lib.hid C
  have C7 := C
  refine pl_take (i := 8) 25 rfl rfl rfl (by kernel_rfl) (by kernel_rfl) (by kernel_rfl) (by simp [Act.put]) hS.out ?_
  apply Exists.intro
  refine And.intro (fun w' hS' => ?_) ?_
  · refine wpList_unguard' rfl ?_
    clear hS'
    go_wp2
    first
      | exact ⟨trivial, rfl⟩
      | exact rfl
  refine pl_take (i := 9) 26 rfl rfl rfl (by kernel_rfl) (by kernel_rfl) (by kernel_rfl) (by simp [Act.put]) hS.out ?_
  apply Exists.intro
  refine And.intro (fun w' hS' => ?_) ?_
  · refine wpList_unguard' rfl ?_
    refine wpList_bin rfl .eql 3 3 (.tmp 25) _ rfl (.bool D) (int_guard _ _ _ _ _ _) ((int_eq0 _ _).trans (by rw [HD.out])) ?_
    clear hS'
    go_wp2
    exact ⟨trivial, rfl⟩
  refine pl_heavy (i := 7) rfl (by kernel_rfl) ?_
  refine wpList_unguard' rfl ?_
  go_wp2_with fail
  refine (C.out).mono ?_
  rintro e w8 ⟨rfl, bq⟩
  replace hS := Lib.hid (hS.out.fresh bq)
  replace BB := Lib.hid (BB.out.tr bq)
  replace OB : Hid (R = 0 → nb = (packB x).length ∧ Rd w8 1 (.slice ab nb cb) nb (bvs (packB x))) := Lib.hid (fun h => ⟨(OB.out h).1, (OB.out h).2.fresh bq⟩)
  clear bq
  go_wp2
  refine And.intro hS.out ?_
  clear C C7
  refine pl_take (i := 10) 27 rfl rfl rfl (by kernel_rfl) (by kernel_rfl) (by kernel_rfl) (by simp [Act.put]) hS.out ?_
  apply Exists.intro
  refine And.intro (fun w' hS' => ?_) ?_
  · refine wpList_unguard' rfl ?_
    refine wpList_bin rfl .neq 4 4 (.tmp 24) (.tmp 26) rfl (.bool false) (bool_guardn _ _ _) (bool_neq _ _) ?_
    clear hS'
    go_wp2
    exact ⟨trivial, rfl⟩
  refine pl_take (i := 11) 28 rfl rfl rfl (by kernel_rfl) (by kernel_rfl) (by kernel_rfl) (by simp [Act.put]) hS.out ?_
  apply Exists.intro
  refine And.intro (fun w' hS' => ?_) ?_
  · go_wp2
    first
      | exact ⟨trivial, rfl⟩
      | exact rfl
  refine pl_take (i := 12) 29 rfl rfl rfl (by kernel_rfl) (by kernel_rfl) (by kernel_rfl) (by simp [Act.put]) hS.out ?_
  apply Exists.intro
  refine And.intro (fun w' hS' => ?_) ?_
  · go_wp2
    first
      | exact ⟨trivial, rfl⟩
      | exact rfl
  refine pl_take (i := 13) 30 rfl rfl rfl (by kernel_rfl) (by kernel_rfl) (by kernel_rfl) (by simp [Act.put]) hS.out ?_
  apply Exists.intro
  refine And.intro (fun w' hS' => ?_) ?_
  · refine wpList_unguard' rfl ?_
    refine wpList_load_agg rfl 37 (.tmp 1) rfl ⟨w.heap.size, 0, none⟩ rfl [.slice a0 N c0, .slice a2 K c2, .int .u64 x.nonce] _ (At.block hS').load Try.underlying37 rfl (by exact infoTx) ?_
    clear hS'
    go_wp2
    first
      | exact ⟨trivial, rfl⟩
      | exact rfl
  refine pl_take (i := 15) 32 rfl rfl rfl (by kernel_rfl) (by kernel_rfl) (by kernel_rfl) (by simp [Act.put]) hS.out ?_
  apply Exists.intro
  refine And.intro (fun w' hS' => ?_) ?_
  · refine wpList_unguard' rfl ?_
    refine wpList_load_agg rfl 37 (.tmp 1) rfl ⟨w.heap.size, 0, none⟩ rfl [.slice a0 N c0, .slice a2 K c2, .int .u64 x.nonce] _ (At.block hS').load Try.underlying37 rfl (by exact infoTx) ?_
    clear hS'
    go_wp2
    first
      | exact ⟨trivial, rfl⟩
      | exact rfl
  obtain ⟨Z, hZ⟩ : ∃ Z, Z = idB x := ⟨_, rfl⟩
  have HZl : Hid (Z.length = 32) := Lib.hid (by rw [hZ]; exact idB_len x)
  have HZ := Lib.hid hZ
  clear hZ
  have C := id_any F w8 x (.slice a0 N c0, .slice a2 K c2) (HI0.out.fresh BB.out) (HO0.out.fresh BB.out) HW.out
  rw [← HZ.out] at C
  replace C := Lib.hid C
  refine pl_heavy (i := 14) rfl (by kernel_rfl) ?_
  refine wpList_unguard' rfl ?_
  go_wp2_with fail
  refine (C.out).mono ?_
  rintro e w9 ⟨rfl, bq⟩
  replace hS := Lib.hid (hS.out.fresh bq)
  replace BB := Lib.hid (BB.out.tr bq)
  replace OB : Hid (R = 0 → nb = (packB x).length ∧ Rd w9 1 (.slice ab nb cb) nb (bvs (packB x))) := Lib.hid (fun h => ⟨(OB.out h).1, (OB.out h).2.fresh bq⟩)
  clear bq
  go_wp2
  refine And.intro hS.out ?_
  clear C
  have C := rid_any F w9 x (.slice a0 N c0, .slice a2 K c2) (HI0.out.fresh BB.out) (HO0.out.fresh BB.out) HW.out
  rw [← HZ.out] at C
  replace C := Lib.hid C
  refine pl_heavy (i := 16) rfl (by kernel_rfl) ?_
  refine wpList_unguard' rfl ?_
  go_wp2_with fail
  refine (C.out).mono ?_
  rintro e wa ⟨rfl, bq⟩
  replace hS := Lib.hid (hS.out.fresh bq)
  replace BB := Lib.hid (BB.out.tr bq)
  replace OB : Hid (R = 0 → nb = (packB x).length ∧ Rd wa 1 (.slice ab nb cb) nb (bvs (packB x))) := Lib.hid (fun h => ⟨(OB.out h).1, (OB.out h).2.fresh bq⟩)
  clear bq
  go_wp2
  refine And.intro hS.out ?_
  clear C
  refine pl_take (i := 17) 34 rfl rfl rfl (by kernel_rfl) (by kernel_rfl) (by kernel_rfl) (by simp [Act.put]) hS.out ?_
  apply Exists.intro
  refine And.intro (fun w' hS' => ?_) ?_
  · refine wpList_unguard' rfl ?_
    refine wpList_bin rfl .neq 24 24 (.tmp 31) (.tmp 33) rfl (.bool false) (eqGuard_agg _ _ _ _ _ _ _ (by kernel_rfl)) ((hash_ne _ Z Z HZl.out HZl.out).trans (by simp)) ?_
    clear hS'
    go_wp2
    exact ⟨trivial, rfl⟩
  refine pl_take (i := 18) 35 rfl rfl rfl (by kernel_rfl) (by kernel_rfl) (by kernel_rfl) (by simp [Act.put]) hS.out ?_
  apply Exists.intro
  refine And.intro (fun w' hS' => ?_) ?_
  · go_wp2
    first
      | exact ⟨trivial, rfl⟩
      | exact rfl
  refine pl_take (i := 19) 36 rfl rfl rfl (by kernel_rfl) (by kernel_rfl) (by kernel_rfl) (by simp [Act.put]) hS.out ?_
  apply Exists.intro
  refine And.intro (fun w' hS' => ?_) ?_
  · go_wp2
    first
      | exact ⟨trivial, rfl⟩
      | exact rfl
  refine pl_take (i := 20) 37 rfl rfl rfl (by kernel_rfl) (by kernel_rfl) (by kernel_rfl) (by simp [Act.put]) hS.out ?_
  apply Exists.intro
  refine And.intro (fun w' hS' => ?_) ?_
  · refine wpList_unguard' rfl ?_
    clear hS'
    go_wp2
    first
      | exact ⟨trivial, rfl⟩
      | exact rfl
  refine pl_take (i := 22) 39 rfl rfl rfl (by kernel_rfl) (by kernel_rfl) (by kernel_rfl) (by simp [Act.put]) hS.out ?_
  apply Exists.intro
  refine And.intro (fun w' hS' => ?_) ?_
  · refine wpList_unguard' rfl ?_
    clear hS'
    go_wp2
    first
      | exact ⟨trivial, rfl⟩
      | exact rfl
  refine pl_heavy (i := 21) rfl (by kernel_rfl) ?_
  refine wpList_unguard' rfl ?_
  go_wp2_with fail
  refine (num5_any wa R).mono ?_
  rintro e wq ⟨rfl, rfl⟩
  go_wp2
  refine And.intro hS.out ?_
  refine pl_take (i := 23) 40 rfl rfl rfl (by kernel_rfl) (by kernel_rfl) (by kernel_rfl) (by simp [Act.put]) hS.out ?_
  apply Exists.intro
  refine And.intro (fun w' hS' => ?_) ?_
  · refine wpList_unguard' rfl ?_
    refine wpList_bin rfl .neq 3 3 (.tmp 38) (.tmp 39) rfl (.bool false) (int_guard _ _ _ _ _ _) (int_neq _ _) ?_
    clear hS'
    go_wp2
    exact ⟨trivial, rfl⟩
  refine pl_take (i := 24) 41 rfl rfl rfl (by kernel_rfl) (by kernel_rfl) (by kernel_rfl) (by simp [Act.put]) hS.out ?_
  apply Exists.intro
  refine And.intro (fun w' hS' => ?_) ?_
  · go_wp2
    first
      | exact ⟨trivial, rfl⟩
      | exact rfl
  refine pl_done (by kernel_rfl) ?_
  by_cases h0 : R = 0
  rotate_left
  · have hn0 := ON.out h0
    have hb1 : (R == 0) = false := by rw [beq_eq_false_iff_ne]; exact h0
    have hb2 : (R != 0) = true := by simp [bne, hb1]
    subst hn0
    clear h0 OB ON
    go_wp2_with fail
    refine (known5_any wa).mono ?_
    rintro e wb ⟨rfl, bq⟩
    have BF := Lib.hid (BB.out.tr bq)
    clear bq
    go_wp2
    go_ret
    exact ⟨rfl, BF.out⟩
  obtain ⟨enb, rdb⟩ := OB.out h0
  subst enb
  have HB2 := Lib.hid (And.intro trivial rdb)
  clear rdb
  have HSH := Lib.hid (check_shape (HR.out.trans h0))
  have hPL := Lib.hid (packB_le HI.out.ok HO.out.1 HSH.out)
  have hb1 : (R == 0) = true := by rw [h0]; rfl
  have hb2 : (R != 0) = false := by rw [h0]; rfl
  clear h0 OB ON HZ HZl HD
  go_wp2_with fail
  have bd : Below wa.heap.size wa wa.drew := (Below.refl _ _).drew
  have hS2 : Hid (CB wa.drew 37 w.heap.size [.slice a0 N c0, .slice a2 K c2, .int .u64 x.nonce] ∧ Rd wa.drew 1 (.slice ab (packB x).length cb) (packB x).length (bvs (packB x))) := Lib.hid ⟨hS.out.drew, HB2.out.2.fresh bd⟩
  have BB2 := Lib.hid (BB.out.tr bd)
  obtain ⟨wb, hwb⟩ : ∃ wb, wb = wa.drew := ⟨_, rfl⟩
  refine pl_start 10 rfl (fun w' => CB w' 37 w.heap.size [.slice a0 N c0, .slice a2 K c2, .int .u64 x.nonce] ∧ Rd w' 1 (.slice ab (packB x).length cb) (packB x).length (bvs (packB x))) (by kernel_rfl) ?_
  rw [← hwb] at hS2 BB2 ⊢
  clear hwb bd hS BB HB2
  refine pl_take (i := 0) 50 rfl rfl rfl (by kernel_rfl) (by kernel_rfl) (by kernel_rfl) (by simp [Act.put]) hS2.out ?_
  apply Exists.intro
  refine And.intro (fun w' hS' => ?_) ?_
  · go_wp2
    first
      | exact ⟨trivial, rfl⟩
      | exact rfl
  refine pl_take (i := 1) 51 rfl rfl rfl (by kernel_rfl) (by kernel_rfl) (by kernel_rfl) (by simp [Act.put]) hS2.out ?_
  apply Exists.intro
  refine And.intro (fun w' hS' => ?_) ?_
  · have hv := hS'.2.conv (P := Try.prog) 42 9 5 Try.underlying42 Try.underlying5 Try.underlying9
    clear hS'
    go_wp2
    exact ⟨trivial, rfl⟩
  refine pl_take (i := 2) 52 rfl rfl rfl (by kernel_rfl) (by kernel_rfl) (by kernel_rfl) (by simp [Act.put]) hS2.out ?_
  apply Exists.intro
  refine And.intro (fun w' hS' => ?_) ?_
  · refine wpList_load_agg rfl 37 (.tmp 1) rfl ⟨w.heap.size, 0, none⟩ rfl [.slice a0 N c0, .slice a2 K c2, .int .u64 x.nonce] _ (At.block hS'.1).load Try.underlying37 rfl (by exact infoTx) ?_
    clear hS'
    go_wp2
    first
      | exact ⟨trivial, rfl⟩
      | exact rfl
  refine pl_heavy (i := 3) rfl (by kernel_rfl) ?_
  go_wp2_with fail
  refine (rpack_any F wb x (.slice a0 N c0, .slice a2 K c2) (HI0.out.fresh BB2.out) (HO0.out.fresh BB2.out) HW.out HSH.out).mono ?_
  rintro e wc ⟨v5, rfl, o5, b5⟩
  obtain ⟨a5, c5, rfl⟩ := (Rd.of_own o5).slice
  have R5 := Lib.hid (Rd.of_own o5)
  have BB3 := Lib.hid (BB2.out.tr b5)
  replace hS2 := Lib.hid (And.intro (hS2.out.1.fresh b5) (hS2.out.2.fresh b5))
  clear o5 b5
  go_wp2
  refine And.intro hS2.out ?_
  refine pl_heavy (i := 4) rfl (by kernel_rfl) ?_
  have hv := R5.out.conv (P := Try.prog) 42 9 5 Try.underlying42 Try.underlying5 Try.underlying9
  go_wp2
  refine And.intro hS2.out ?_
  clear hv
  refine pl_take (i := 5) 55 rfl rfl rfl (by kernel_rfl) (by kernel_rfl) (by kernel_rfl) (by simp [Act.put]) hS2.out ?_
  apply Exists.intro
  refine And.intro (fun w' hS' => ?_) ?_
  · refine wpList_bin rfl .eql 9 9 (.tmp 51) (.tmp 54) rfl (.bool true) (str_guard _ _ _ _ _ _) (str_eql _ _) ?_
    clear hS'
    go_wp2
    exact ⟨trivial, rfl⟩
  refine pl_take (i := 6) 56 rfl rfl rfl (by kernel_rfl) (by kernel_rfl) (by kernel_rfl) (by simp [Act.put]) hS2.out ?_
  apply Exists.intro
  refine And.intro (fun w' hS' => ?_) ?_
  · go_wp2
    first
      | exact ⟨trivial, rfl⟩
      | exact rfl
  refine pl_heavy (i := 7) rfl (by kernel_rfl) ?_
  refine wpList_unguard' rfl ?_
  go_wp2_with fail
  refine (known5_any wc).mono ?_
  rintro e wd ⟨rfl, b6⟩
  replace hS2 := Lib.hid (And.intro (hS2.out.1.fresh b6) (hS2.out.2.fresh b6))
  have BB4 := Lib.hid (BB3.out.tr b6)
  clear b6
  go_wp2
  refine And.intro hS2.out ?_
  refine pl_take (i := 8) 58 rfl rfl rfl (by kernel_rfl) (by kernel_rfl) (by kernel_rfl) (by simp [Act.put]) hS2.out ?_
  apply Exists.intro
  refine And.intro (fun w' hS' => ?_) ?_
  · go_wp2
    first
      | exact ⟨trivial, rfl⟩
      | exact rfl
  refine pl_take (i := 9) 2 rfl rfl rfl (by kernel_rfl) (by kernel_rfl) (by kernel_rfl) (by simp [Act.put]) hS2.out ?_
  apply Exists.intro
  refine And.intro (fun w' hS' => ?_) ?_
  · go_wp2
    first
      | exact ⟨trivial, rfl⟩
      | exact rfl
  refine pl_done (by kernel_rfl) ?_
  go_wp2
  go_ret
  exact ⟨rfl, BB4.out⟩

theorem txchecks_any (F : Nat → Prop) (w : World) (x : TxD) (u : Value × Value) (hi : Ins F w u.1 x.ins) (ho : Outs F w u.2 x.outs) (hwf : TxWf x) :
    Calls Try.prog 4 #[.agg (txC (x, u)).toArray] w fun e w' => e = .returned (.bool true) ∧ Below w.heap.size w w' :=
  txchecks_R F w x u hi ho hwf _ rfl (checkE_cases x)

end Go.Proofs.Ytkbahhnjoidhcaa
