/- tx.Check, tx.May: the walks. -/
import Derived.Test.YtkbahhnjoidhcaaVc
namespace Go.Proofs.Ytkbahhnjoidhcaa
set_option linter.unusedVariables false
set_option linter.unusedSimpArgs false
open Go.RowKit

theorem infoC_u64 : (Try.prog.info? 25).map (fun i => (i.zero, i.size, i.bytes)) = some (some (.int .u64 0), 1, 8) := by kernel_rfl
theorem infoOut1 : (Try.prog.info? 46).map (·.size) = some 33 := by kernel_rfl

theorem ints_one (l : List Int) : ∀ u ∈ ints l, u.oneCell' = true := by
  intro u hu
  obtain ⟨a, _, rfl⟩ := List.mem_map.1 hu
  rfl

theorem amts_next {x : TxD} {k : Nat} {o : OutD} (h : x.outs[k]? = some o) : ints ((amts x).take (k + 1)) = ints ((amts x).take k) ++ [Value.int .u64 o.amt] := by
  have h1 : (amts x)[k]? = some o.amt := by simp [amts, h]
  rw [List.take_add_one, h1, Option.toList]
  simp [ints]

set_option maxRecDepth 100000 in
set_option maxHeartbeats 4000000 in
theorem check_any (F : Nat → Prop) (w : World) (x : TxD) (u : Value × Value) (hi : Ins F w u.1 x.ins) (ho : Outs F w u.2 x.outs) (hwf : TxWf x) :
    Calls Try.prog 19 #[.agg (txC (x, u)).toArray] w fun e w' => e = .returned (.int .i64 (checkE x)) ∧ Below w.heap.size w w' := by
  obtain ⟨u1, u2⟩ := u
  change Calls _ _ #[.agg #[u1, u2, .int .u64 x.nonce]] _ _
  obtain ⟨a0, c0, he⟩ := hi.slice
  change u1 = _ at he
  subst he
  obtain ⟨a2, c2, he⟩ := ho.slice
  change u2 = _ at he
  subst he
  obtain ⟨N, hN⟩ : ∃ N, N = x.ins.length := ⟨_, rfl⟩
  obtain ⟨K, hK⟩ : ∃ K, K = x.outs.length := ⟨_, rfl⟩
  rw [← hN] at hi
  rw [← hK] at ho
  rw [← hN, ← hK]
  have HII := Lib.hid hi
  have HOO := Lib.hid ho
  obtain ⟨hou, hrou⟩ := ho
  rw [← hK] at hrou
  change RdF F w 33 (.slice a2 K c2) K _ at hrou
  have bK' : (K : Int) ≤ 9223372036854775807 := rd_small' hrou.1
  have HI := Lib.hid hrou.1
  have HL := Lib.hid (And.intro hN hK)
  have HOK := Lib.hid hou
  have HW := Lib.hid hwf
  obtain ⟨R, hR⟩ : ∃ R, R = checkE x := ⟨_, rfl⟩
  rw [← hR]
  have HR := Lib.hid hR
  obtain ⟨i5, hi5, hz0, hz1, hz2⟩ := info_parts infoC_u64
  have HINF := Lib.hid (And.intro hi5 (And.intro hz0 (And.intro hz1 hz2)))
  clear hi hou hrou hN hK hwf hR hi5 hz0 hz1 hz2
  go_enter Try.func19, Try.ntmps19
  go_wp2_with (with_reducible refine stopAt 9 ?_)
  refine Stop.go ?_
  obtain ⟨w1, h1, k1, b1, s1⟩ := alloc_cb w 37 [.slice a0 N c0, .slice a2 K c2, .int .u64 x.nonce]
  change wpList _ _ _ _ _ (w.alloc (.cells [.slice a0 N c0, .slice a2 K c2, .int .u64 x.nonce].toArray 37))
  rw [← h1]
  have K1 : Hid (CB w1 37 w.heap.size [.slice a0 N c0, .slice a2 K c2, .int .u64 x.nonce]) := Lib.hid k1
  have BB := Lib.hid b1
  clear h1 k1 b1
  have S1 := Lib.hid s1
  clear s1
  go_wp2_with fail
  obtain ⟨w2, h2, k2, b2, s2⟩ := alloc_cb w1 33 [.func (.func 46) #[] #[.pointer (some ⟨w.heap.size, 0, none⟩)], .func (.func 47) #[] #[.pointer (some ⟨w.heap.size, 0, none⟩)], .func (.func 48) #[] #[.pointer (some ⟨w.heap.size, 0, none⟩)]]
  change Calls _ _ _ (w1.alloc (.cells [.func (.func 46) #[] #[.pointer (some ⟨w.heap.size, 0, none⟩)], .func (.func 47) #[] #[.pointer (some ⟨w.heap.size, 0, none⟩)], .func (.func 48) #[] #[.pointer (some ⟨w.heap.size, 0, none⟩)]].toArray 33)) _
  rw [← h2]
  rw [S1.out] at k2 ⊢
  replace K1 := Lib.hid (K1.out.fresh b2)
  replace BB := Lib.hid (BB.out.tr b2)
  have K2 := Lib.hid k2
  clear h2 k2 b2 s2
  have C : ∀ B1 B2 B3, B1 = decide (1 ≤ x.ins.length ∧ x.ins.length ≤ 64) → B2 = decide (1 ≤ x.outs.length ∧ x.outs.length ≤ 64) → B3 = decide (Short x.ins ∧ Unlike x.ins) → Asked w2 (w.heap.size + 1) (.pointer (some ⟨w.heap.size, 0, none⟩)) B1 B2 B3 := by
    intro B1 B2 B3 e1 e2 e3
    subst e1
    subst e2
    subst e3
    exact ⟨fun w' hb => chk1_any w' w.heap.size x a0 c0 (.slice a2 K c2) (by rw [← HL.out.1]; exact K1.out.fresh hb), fun w' hb => chk2_any w' w.heap.size x a2 c2 (.slice a0 N c0) (by rw [← HL.out.2]; exact K1.out.fresh hb), fun w' hb => chk3_any F w' w.heap.size x (.slice a0 N c0) (.slice a2 K c2) (K1.out.fresh hb) (HII.out.fresh (BB.out.tr hb)), K2.out⟩
  have C := contains3_any w2 (w.heap.size + 1) _ _ _ _ (C _ _ _ rfl rfl rfl)
  have hdec : (decide (1 ≤ x.ins.length ∧ x.ins.length ≤ 64) && decide (1 ≤ x.outs.length ∧ x.outs.length ≤ 64) && decide (Short x.ins ∧ Unlike x.ins)) = decide (okShape x) := by
    unfold okShape
    rw [Bool.eq_iff_iff]
    simp [and_assoc]
  rw [hdec] at C
  clear hdec
  by_cases hok : okShape x
  rotate_left
  · rw [decide_eq_false hok] at C
    have C : Hid (Calls Try.prog 49 #[.slice (some ⟨w.heap.size + 1, 0, none⟩) 3 3, .func (.func 50) #[] #[]] w2 fun e w' => e = .returned (.bool true) ∧ Below w2.heap.size w2 w') := Lib.hid C
    have hno : Hid (R = 2) := Lib.hid (by rw [HR.out, checkE, if_neg hok])
    clear hok
    refine (C.out).mono ?_
    rintro e w3 ⟨rfl, b3⟩
    have Q := Lib.hid (BB.out.tr b3)
    clear b3
    go_wp2
    go_ret
    exact ⟨by rw [hno.out] <;> rfl, Q.out⟩
  rw [decide_eq_true hok] at C
  have C : Hid (Calls Try.prog 49 #[.slice (some ⟨w.heap.size + 1, 0, none⟩) 3 3, .func (.func 50) #[] #[]] w2 fun e w' => e = .returned (.bool false) ∧ Below w2.heap.size w2 w') := Lib.hid C
  have HOKS := Lib.hid hok
  clear hok
  refine (C.out).mono ?_
  rintro e w3 ⟨rfl, b3⟩
  replace BB := Lib.hid (BB.out.tr b3)
  replace K1 := Lib.hid (K1.out.fresh b3)
  clear b3 C K2
  have hc1 := K1.out.cell 1 _ rfl
  go_wp2
  clear hc1
  go_loopw [4, 6, 18] (fun v4 v6 v18 wr => Below w.heap.size w wr ∧ CB wr 37 w.heap.size [.slice a0 N c0, .slice a2 K c2, .int .u64 x.nonce] ∧ ∃ (k : Nat) (a3 : Option Addr) (c3 : Nat), k ≤ K ∧ v18 = .int .i64 (k : Int) ∧ v4 = .slice a3 k c3 ∧ wr.ownsRow (w.heap.size + 1) 25 1 (.slice a3 k c3) k (ints ((amts x).take k)) ∧ ∀ o ∈ x.outs.take k, o.amt ≠ 0)
    (fun _ _ v _ => K - (RowKit.intOf v).toNat)
  case atStart => exact ⟨BB.out, K1.out, 0, none, 0, Nat.zero_le _, rfl, rfl, World.ownsRow_nil _ _ _ _, fun o h => by simp at h⟩
  case round =>
    obtain ⟨hb, hk1, k, a3, c3, hk, rfl, rfl, how, hnz⟩ := hrel
    replace BB := Lib.hid hb
    replace K1 := Lib.hid hk1
    have OW := Lib.hid how
    have NZ := Lib.hid hnz
    clear hb hk1 how hnz
    by_cases hlt : k < K
    · obtain ⟨o, hx⟩ : ∃ z, x.outs[k]? = some z := ⟨_, List.getElem?_eq_getElem (by rw [← HL.out.2]; exact hlt)⟩
      obtain ⟨ad, c, he⟩ := rd_some HI.out (by omega)
      simp only [Value.slice.injEq, true_and] at he
      obtain ⟨rfl, rfl⟩ := he
      have HC2 := Lib.hid ((HI.out.fresh BB.out).at (fun z hz => outC_length (HOK.out z hz)) hx)
      have HX := Lib.hid (And.intro hx (HOK.out o (List.mem_of_getElem? hx)))
      have ik : (k : Int) < (K : Int) := by omega
      have HK := Lib.hid hlt
      have HKb : Hid (K ≤ 64) := Lib.hid (by rw [HL.out.2]; exact HOKS.out.2.1.2)
      clear hx hlt hk
      go_wp2_with (with_reducible refine stopAt 21 ?_)
      refine Stop.go ?_
      refine wpList_load_agg rfl 46 (.tmp 20) rfl (ad.add (k * 33)) rfl (outC o) _ HC2.out Try.underlying46 rfl (by rw [outC_length HX.out.2]; exact infoOut1) ?_
      go_wp2_with (with_reducible refine stopStore 46 ?_)
      refine Stop.go ?_
      refine wpList_store_var rfl 46 (.tmp 6) (.tmp 21) rfl wr.heap.size _ rfl _ (outC o) rfl (heap_alloc_new wr _) (by rw [outC_length HX.out.2]; rfl) (outC_one o) (by rw [outC_length HX.out.2]; exact infoOut1) ?_
      intro w5 k5 o5
      have b5 : Below wr.heap.size wr w5 := Below.only ((Below.refl _ wr).alloc (Nat.le_refl _) _) o5 (Nat.le_refl _)
      obtain ⟨G5, hG5⟩ : ∃ g, g = wr.heap.size := ⟨_, rfl⟩
      rw [← hG5] at k5 ⊢
      replace BB := Lib.hid (BB.out.tr b5)
      replace K1 := Lib.hid (K1.out.fresh b5)
      replace OW := Lib.hid (own_fresh OW.out b5)
      have K5 : Hid (CB w5 46 G5 (outC o)) := Lib.hid k5
      clear k5 o5 b5 hG5 HC2
      have hca := K5.out.cell 0 _ rfl
      by_cases hz : o.amt = 0
      · have hno : Hid (R = 5) := Lib.hid (by rw [HR.out, checkE, if_pos HOKS.out, if_pos ⟨o, List.mem_of_getElem? HX.out.1, hz⟩])
        rw [hz] at hca
        clear hz
        go_wp2
        go_ret
        exact ⟨by rw [hno.out] <;> rfl, BB.out⟩
      · have hzb : (o.amt == 0) = false := by rw [beq_eq_false_iff_ne]; exact hz
        have HZ := Lib.hid hz
        obtain ⟨am, ham⟩ : ∃ am, am = o.amt := ⟨_, rfl⟩
        rw [← ham] at hca hzb
        have HAM := Lib.hid ham
        clear hz ham
        go_wp2_with (at_builtin; apply Stop.mk)
        refine Stop.go ?_
        clear hca hzb
        obtain ⟨w7, h7, k7, b7, s7⟩ := alloc_cb w5 25 [.int .u64 am]
        change wpList _ _ _ _ _ (w5.alloc (.cells [.int .u64 am].toArray 25))
        rw [← h7]
        replace BB := Lib.hid (BB.out.tr b7)
        replace K1 := Lib.hid (K1.out.fresh b7)
        replace OW := Lib.hid (own_fresh OW.out b7)
        have L7 : Hid (w.heap.size + 1 ≤ w7.heap.size) := Lib.hid (by have := K1.out.lt; omega)
        obtain ⟨G7, hG7⟩ : ∃ g, g = w5.heap.size := ⟨_, rfl⟩
        rw [← hG7] at k7 ⊢
        have hrd : Hid (Rd w7 1 (.slice (some ⟨G7, 0, none⟩) 1 1) 1 [Value.int .u64 am]) := Lib.hid ⟨rfl, .inr ⟨_, _, rfl, Nat.le_refl _, by decide, (At.block k7).load⟩⟩
        clear h7 k7 b7 s7 hG7 K5
        refine wpList_append_rd _ rfl (.tmp 25) (.tmp 28) 75 rfl (w.heap.size + 1) 25 i5 _ 1 8 Try.underlying75 HINF.out.1 HINF.out.2.1 HINF.out.2.2.1 HINF.out.2.2.2 rfl (by decide) (.slice a3 k c3) k _ rfl OW.out (.slice (some ⟨G7, 0, none⟩) 1 1) 1 _ rfl hrd.out (by intro u hu; simp at hu; subst hu; rfl) (by unfold maxLen; have := HK.out; have := HKb.out; omega) (by have := HK.out; have := HKb.out; omega) L7.out ?_
        intro v8 w8 o8 g8 _ _
        obtain ⟨a8, c8, rfl⟩ := (Rd.of_own o8).slice
        have hrow : ∀ b, (Value.slice a3 k c3).ownBlock = some b → w.heap.size + 1 ≤ b := fun b hb => (OW.out.lt b hb).1
        have Q1 := Lib.hid (BB.out.grown g8 BB.out.size (fun j hj => by have := hrow j hj; omega))
        have Q2 := Lib.hid (K1.out.grownT g8 (fun e => by have := hrow _ e; omega))
        have Q3 : Hid (w8.ownsRow (w.heap.size + 1) 25 1 (.slice a8 (k + 1) c8) (k + 1) (ints ((amts x).take (k + 1)))) := Lib.hid (by
          rw [amts_next HX.out.1, ← HAM.out]
          exact o8)
        have Q4 : Hid (∀ o ∈ x.outs.take (k + 1), o.amt ≠ 0) := Lib.hid (fun z hz => by
          rw [List.take_add_one, HX.out.1, Option.toList] at hz
          simp at hz
          rcases hz with hz | rfl
          · exact NZ.out z hz
          · exact HZ.out)
        clear o8 g8 hrow hrd
        go_wp2
        go_roundw
        case rel => exact ⟨Q1.out, Q2.out, k + 1, a8, c8, HK.out, by go_num, rfl, Q3.out, Q4.out⟩
        case measure => simp only [RowKit.intOf]; have := HK.out; omega
    · have ik : ¬ ((k : Int) < (K : Int)) := by omega
      have hkK : k = K := by omega
      have hla : (amts x).length = K := by unfold amts; rw [List.length_map, HL.out.2]
      have C9 := msum_any wr (.slice a3 k c3) (amts x) (by
        have h := Rd.of_own OW.out
        rw [List.take_of_length_le (by rw [hla]; omega)] at h
        rw [hla, ← hkK]
        exact h) (fun a ha => by
        obtain ⟨o, ho, rfl⟩ := List.mem_map.1 ha
        exact (HW.out.2.1 o ho).1)
      have hyes : Hid (R = msumE (amts x)) := Lib.hid (by
        rw [HR.out, checkE, if_pos HOKS.out, if_neg]
        rintro ⟨o, ho, hz⟩
        have h := NZ.out o
        rw [List.take_of_length_le (by rw [← HL.out.2]; omega)] at h
        exact h ho hz)
      obtain ⟨EN, hEN⟩ : ∃ n, n = msumN (amts x) := ⟨_, rfl⟩
      rw [← hyes.out, ← hEN] at C9
      replace C9 := Lib.hid C9
      clear hlt hk hkK hla hEN hyes
      go_wp2_with fail
      refine (C9.out).mono ?_
      rintro e w9 ⟨rfl, b9⟩
      have Q := Lib.hid (BB.out.tr b9)
      clear b9
      go_wp2
      go_ret
      exact ⟨rfl, Q.out⟩

theorem may_any (F : Nat → Prop) (w : World) (x : TxD) (u : Value × Value) (hi : Ins F w u.1 x.ins) (ho : Outs F w u.2 x.outs) (hwf : TxWf x) :
    Calls Try.prog 20 #[.agg (txC (x, u)).toArray] w fun e w' => e = .returned (.bool (decide (checkE x = 0))) ∧ Below w.heap.size w w' := by
  obtain ⟨u1, u2⟩ := u
  change Calls _ _ #[.agg #[u1, u2, .int .u64 x.nonce]] _ _
  obtain ⟨a0, c0, he⟩ := hi.slice
  change u1 = _ at he
  subst he
  obtain ⟨a2, c2, he⟩ := ho.slice
  change u2 = _ at he
  subst he
  have C := fun w' (hb : Below w.heap.size w w') => check_any F w' x (.slice a0 x.ins.length c0, .slice a2 x.outs.length c2) (hi.fresh hb) (ho.fresh hb) hwf
  obtain ⟨R, hR⟩ : ∃ R, R = checkE x := ⟨_, rfl⟩
  obtain ⟨N, hN⟩ : ∃ N, N = x.ins.length := ⟨_, rfl⟩
  obtain ⟨K, hK⟩ : ∃ K, K = x.outs.length := ⟨_, rfl⟩
  rw [← hR, ← hN, ← hK] at C
  rw [← hR, ← hN, ← hK]
  replace C := Lib.hid C
  obtain ⟨D, hD⟩ : ∃ D, D = decide (R = 0) := ⟨_, rfl⟩
  rw [← hD]
  have HD := Lib.hid hD
  clear hR hN hK hi ho hwf hD
  go_enter Try.func20, Try.ntmps20
  go_wp2_with (with_reducible refine stopAt 3 ?_)
  refine Stop.go ?_
  obtain ⟨w1, h1, k1, b1, s1⟩ := alloc_cb w 37 [.slice a0 N c0, .slice a2 K c2, .int .u64 x.nonce]
  change wpList _ _ _ _ _ (w.alloc (.cells [.slice a0 N c0, .slice a2 K c2, .int .u64 x.nonce].toArray 37))
  rw [← h1]
  refine wpList_load_agg rfl 37 (.tmp 1) rfl ⟨w.heap.size, 0, none⟩ rfl [.slice a0 N c0, .slice a2 K c2, .int .u64 x.nonce] _ (At.block k1).load Try.underlying37 rfl (by exact infoTx) ?_
  have BB := Lib.hid b1
  clear h1 k1 b1 s1
  go_wp2_with fail
  refine (C.out w1 BB.out).mono ?_
  rintro e w2 ⟨rfl, b2⟩
  have Q := Lib.hid (BB.out.tr b2)
  clear b2 C
  by_cases h : R = 0
  · have hd : Hid (D = true) := Lib.hid (by rw [HD.out, decide_eq_true h])
    rw [h]
    clear h
    go_wp2
    go_ret
    exact ⟨by rw [hd.out] <;> rfl, Q.out⟩
  · have hb : (R == 0) = false := by rw [beq_eq_false_iff_ne]; exact h
    have hd : Hid (D = false) := Lib.hid (by rw [HD.out, decide_eq_false h])
    clear h
    go_wp2
    go_ret
    exact ⟨by rw [hd.out] <;> rfl, Q.out⟩

end Go.Proofs.Ytkbahhnjoidhcaa
