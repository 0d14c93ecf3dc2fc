/- tx.Bytes; law 05's row: the walks. -/
import Derived.Test.YtkbahhnjoidhcaaVh
import Derived.OwnWalk
namespace Go.Proofs.Ytkbahhnjoidhcaa
set_option linter.unusedVariables false
set_option linter.unusedSimpArgs false
open Go.RowKit

set_option maxRecDepth 100000 in
set_option maxHeartbeats 2000000 in
theorem txbytes_ok (F : Nat → Prop) (w : World) (x : TxD) (u : Value × Value) (hi : Ins F w u.1 x.ins) (ho : Outs F w u.2 x.outs) (hwf : TxWf x) (h0 : checkE x = 0) :
    Calls Try.prog 16 #[.agg (txC (x, u)).toArray] w fun e w' => ∃ v' : Value, e = .returned (.tuple #[v', .int .i64 0]) ∧ w'.ownsRow w.heap.size 5 1 v' (packB x).length (bvs (packB x)) ∧ Below w.heap.size w w' := by
  obtain ⟨u1, u2⟩ := u
  change Calls _ _ #[.agg #[u1, u2, .int .u64 x.nonce]] _ _
  obtain ⟨a0, c0, he⟩ := hi.slice
  change u1 = _ at he
  subst he
  obtain ⟨a2, c2, he⟩ := ho.slice
  change u2 = _ at he
  subst he
  obtain ⟨N, hN⟩ : ∃ N, N = x.ins.length := ⟨_, rfl⟩
  obtain ⟨K, hK⟩ : ∃ K, K = x.outs.length := ⟨_, rfl⟩
  rw [← hN] at hi
  rw [← hK] at ho
  rw [← hN, ← hK]
  have HI := Lib.hid hi
  have HO := Lib.hid ho
  have HW := Lib.hid hwf
  have HI0 : Hid (Ins F w ((Value.slice a0 N c0, Value.slice a2 K c2) : Value × Value).1 x.ins) := HI
  have HO0 : Hid (Outs F w ((Value.slice a0 N c0, Value.slice a2 K c2) : Value × Value).2 x.outs) := HO
  have C := fun w' (hb : Below w.heap.size w w') => check_any F w' x (.slice a0 N c0, .slice a2 K c2) (HI0.out.fresh hb) (HO0.out.fresh hb) hwf
  have HSH := Lib.hid (check_shape h0)
  rw [h0] at C
  replace C := Lib.hid C
  clear hN hK hi ho hwf h0
  go_enter Try.func16, Try.ntmps16
  go_wp2_with (with_reducible refine stopAt 5 ?_)
  refine Stop.go ?_
  obtain ⟨w1, h1, k1, b1, s1⟩ := alloc_cb w 37 [.slice a0 N c0, .slice a2 K c2, .int .u64 x.nonce]
  change wpList _ _ _ _ _ (w.alloc (.cells [.slice a0 N c0, .slice a2 K c2, .int .u64 x.nonce].toArray 37))
  rw [← h1]
  have K1 : Hid (CB w1 37 w.heap.size [.slice a0 N c0, .slice a2 K c2, .int .u64 x.nonce]) := Lib.hid k1
  have BB := Lib.hid b1
  clear h1 k1 b1 s1
  refine wpList_load_agg rfl 37 (.tmp 1) rfl ⟨w.heap.size, 0, none⟩ rfl [.slice a0 N c0, .slice a2 K c2, .int .u64 x.nonce] _ (At.block K1.out).load Try.underlying37 rfl (by exact infoTx) ?_
  go_wp2_with fail
  refine (C.out w1 BB.out).mono ?_
  rintro e w3 ⟨rfl, b3⟩
  replace BB := Lib.hid (BB.out.tr b3)
  replace K1 := Lib.hid (K1.out.fresh b3)
  clear b3 C
  go_wp2_with (with_reducible refine stopAt 10 ?_)
  refine Stop.go ?_
  refine wpList_load_agg rfl 37 (.tmp 1) rfl ⟨w.heap.size, 0, none⟩ rfl [.slice a0 N c0, .slice a2 K c2, .int .u64 x.nonce] _ (At.block K1.out).load Try.underlying37 rfl (by exact infoTx) ?_
  go_wp2_with fail
  refine (pack_any F w3 x (.slice a0 N c0, .slice a2 K c2) (HI0.out.fresh BB.out) (HO0.out.fresh BB.out) HW.out HSH.out).mono ?_
  rintro e w4 ⟨v4, rfl, o4, b4⟩
  have OV := Lib.hid (own_lower' o4 BB.out.size)
  replace BB := Lib.hid (BB.out.tr b4)
  clear o4 b4
  go_wp2
  go_ret2
  exact ⟨v4, rfl, OV.out, BB.out⟩

set_option maxRecDepth 100000 in
set_option maxHeartbeats 2000000 in
theorem txbytes_no (F : Nat → Prop) (w : World) (x : TxD) (u : Value × Value) (R : Int) (hi : Ins F w u.1 x.ins) (ho : Outs F w u.2 x.outs) (hwf : TxWf x) (hR : checkE x = R) (h0 : R ≠ 0) :
    Calls Try.prog 16 #[.agg (txC (x, u)).toArray] w fun e w' => e = .returned (.tuple #[.slice none 0 0, .int .i64 R]) ∧ Below w.heap.size w w' := by
  obtain ⟨u1, u2⟩ := u
  change Calls _ _ #[.agg #[u1, u2, .int .u64 x.nonce]] _ _
  obtain ⟨a0, c0, he⟩ := hi.slice
  change u1 = _ at he
  subst he
  obtain ⟨a2, c2, he⟩ := ho.slice
  change u2 = _ at he
  subst he
  obtain ⟨N, hN⟩ : ∃ N, N = x.ins.length := ⟨_, rfl⟩
  obtain ⟨K, hK⟩ : ∃ K, K = x.outs.length := ⟨_, rfl⟩
  rw [← hN] at hi
  rw [← hK] at ho
  rw [← hN, ← hK]
  have HI := Lib.hid hi
  have HO := Lib.hid ho
  have HW := Lib.hid hwf
  have HI0 : Hid (Ins F w ((Value.slice a0 N c0, Value.slice a2 K c2) : Value × Value).1 x.ins) := HI
  have HO0 : Hid (Outs F w ((Value.slice a0 N c0, Value.slice a2 K c2) : Value × Value).2 x.outs) := HO
  have C := fun w' (hb : Below w.heap.size w w') => check_any F w' x (.slice a0 N c0, .slice a2 K c2) (HI0.out.fresh hb) (HO0.out.fresh hb) hwf
  rw [hR] at C
  replace C := Lib.hid C
  have hb0 : (R == 0) = false := by rw [beq_eq_false_iff_ne]; exact h0
  clear hN hK hi ho hwf h0 hR
  go_enter Try.func16, Try.ntmps16
  go_wp2_with (with_reducible refine stopAt 5 ?_)
  refine Stop.go ?_
  obtain ⟨w1, h1, k1, b1, s1⟩ := alloc_cb w 37 [.slice a0 N c0, .slice a2 K c2, .int .u64 x.nonce]
  change wpList _ _ _ _ _ (w.alloc (.cells [.slice a0 N c0, .slice a2 K c2, .int .u64 x.nonce].toArray 37))
  rw [← h1]
  have K1 : Hid (CB w1 37 w.heap.size [.slice a0 N c0, .slice a2 K c2, .int .u64 x.nonce]) := Lib.hid k1
  have BB := Lib.hid b1
  clear h1 k1 b1 s1
  refine wpList_load_agg rfl 37 (.tmp 1) rfl ⟨w.heap.size, 0, none⟩ rfl [.slice a0 N c0, .slice a2 K c2, .int .u64 x.nonce] _ (At.block K1.out).load Try.underlying37 rfl (by exact infoTx) ?_
  go_wp2_with fail
  refine (C.out w1 BB.out).mono ?_
  rintro e w3 ⟨rfl, b3⟩
  replace BB := Lib.hid (BB.out.tr b3)
  clear b3 C
  go_wp2
  go_ret2
  exact ⟨rfl, BB.out⟩

theorem num5_any (w : World) (n : Int) :
    Calls Try.prog 18 #[.int .i64 n] w fun e w' => e = .returned (.int .i64 n) ∧ w = w' := by
  go_enter Try.func18, Try.ntmps18
  go_wp2
  go_ret
  exact ⟨rfl, rfl⟩

def zB : Bs := List.replicate 32 0
def tx0 : TxD := ⟨[⟨zB, 0, []⟩], [⟨1, zB⟩], 0⟩

theorem tx0_check : checkE tx0 = 0 := by decide
theorem tx0_wf : TxWf tx0 := ⟨by intro i hi; simp [tx0] at hi; subst hi; exact ⟨by decide, by decide⟩, by intro o ho; simp [tx0] at ho; subst ho; exact ⟨by decide, by decide⟩, by decide, by decide⟩
theorem tx0_len : (packB tx0).length = 92 := by simp [packB, tx0, inpB, outpB, zB]
theorem made_in : (madeCells (Value.agg ((List.replicate 32 (Value.int .u8 0)) ++ [Value.int .u32 0, Value.slice none 0 0]).toArray).cells (1 * 34)).toList = inC (⟨zB, 0, []⟩, .slice none 0 0) := by kernel_rfl

set_option maxRecDepth 100000 in
set_option maxHeartbeats 4000000 in
theorem known5_any (w : World) : Calls Try.prog 15 #[] w fun e w' => e = .returned (.bool true) ∧ Below w.heap.size w w' := by
  obtain ⟨i0, hi, hz0, hz1, hz2⟩ := info_parts infoC_in
  have HI := Lib.hid (And.intro hi (And.intro hz0 (And.intro hz1 hz2)))
  clear hi hz0 hz1 hz2
  go_enter Try.func15, Try.ntmps15
  go_wp2_with (with_reducible refine stopAt 4 ?_)
  refine Stop.go ?_
  refine wpList_make_full w rfl _ _ 34 rfl w.heap.size 44 i0 _ 34 Try.underlying34 HI.out.1 HI.out.2.1 HI.out.2.2.1 .i64 .i64 1 1 1 rfl rfl rfl rfl (by rw [HI.out.2.2.2]; decide) (by decide) (Nat.le_refl _) ?_
  intro w1 o1 g1
  rw [made_in] at o1
  have h1 : Hid (Ins (fun _ => True) w1 (.slice (some ⟨w.heap.size, 0, none⟩) 1 1) [⟨zB, 0, []⟩]) := Lib.hid ⟨[.slice none 0 0], rfl, by intro x hx; simp at hx; subst hx; simp [InOk, zB], ⟨by
    have h := Rd.of_own o1
    simpa using h, fun _ _ => trivial⟩, fun i x u hx hu => by
    match i, hx, hu with
    | 0, hx, hu => simp at hx hu; subst hx hu; exact ⟨Rd.nil _ _, fun _ _ => trivial⟩
    | n + 1, hx, _ => simp at hx⟩
  have B1 : Hid (Below w.heap.size w w1) := Lib.hid ((Below.refl _ w).grown g1 (Nat.le_refl _) (fun j hj => by cases hj))
  clear o1 g1
  go_wp2_with fail
  obtain ⟨w2, h2, k2, b2, s2⟩ := alloc_cb w1 46 (outC ⟨1, zB⟩)
  change Calls _ _ _ (w1.alloc (.cells (outC ⟨1, zB⟩).toArray 46)) _
  rw [← h2]
  have HO : Hid (Outs (fun _ => True) w2 (.slice (some ⟨w1.heap.size, 0, none⟩) 1 1) [⟨1, zB⟩]) := Lib.hid ⟨by intro o ho; simp at ho; subst ho; simp [OutOk, zB], ⟨rfl, .inr ⟨_, _, rfl, Nat.le_refl _, by decide, fun j u hj => by
    rw [add_at, Nat.zero_add]
    exact k2.cell j u (by simpa using hj)⟩⟩, fun _ _ => trivial⟩
  have HIN := Lib.hid (h1.out.fresh b2)
  have BB := Lib.hid (B1.out.tr b2)
  have C := txbytes_ok (fun _ => True) w2 tx0 (.slice (some ⟨w.heap.size, 0, none⟩) 1 1, .slice (some ⟨w1.heap.size, 0, none⟩) 1 1) HIN.out HO.out tx0_wf tx0_check
  rw [tx0_len] at C
  replace C := Lib.hid C
  clear h2 k2 b2 s2 h1 B1 HI
  refine (C.out).mono ?_
  rintro e w3 ⟨v3, rfl, o3, b3⟩
  obtain ⟨a3, c3, rfl⟩ := (Rd.of_own o3).slice
  have B3 := Lib.hid (BB.out.tr b3)
  clear o3 b3 C HO HIN
  go_wp2_with fail
  refine (num5_any w3 0).mono ?_
  rintro e w4 ⟨rfl, rfl⟩
  go_wp2
  go_ret
  exact ⟨rfl, B3.out⟩

end Go.Proofs.Ytkbahhnjoidhcaa
