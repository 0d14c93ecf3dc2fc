/- tx.Out, the reference's; tx.Lock: the walks. -/
import Derived.Test.YtkbahhnjoidhcaaVj
namespace Go.Proofs.Ytkbahhnjoidhcaa
set_option linter.unusedVariables false
set_option linter.unusedSimpArgs false
open Go.RowKit

def sumW (l : List Int) : Int := l.foldl (fun n a => IntKind.u64.wrap (n + a)) 0
/-- Its outputs' amounts in all. -/
def outV (x : TxD) : Int := if checkE x = 0 then sumW (amts x) else 0

theorem sumW_next {x : TxD} {k : Nat} {o : OutD} (h : x.outs[k]? = some o) : sumW ((amts x).take (k + 1)) = IntKind.u64.wrap (sumW ((amts x).take k) + o.amt) := by
  have h1 : (amts x)[k]? = some o.amt := by simp [amts, h]
  rw [List.take_add_one, h1, Option.toList]
  simp [sumW, List.foldl_append]

theorem amts_len (x : TxD) : (amts x).length = x.outs.length := by simp [amts]

set_option maxRecDepth 100000 in
set_option maxHeartbeats 4000000 in
theorem out_any (F : Nat → Prop) (w : World) (x : TxD) (u : Value × Value) (hi : Ins F w u.1 x.ins) (ho : Outs F w u.2 x.outs) (hwf : TxWf x) :
    Calls Try.prog 29 #[.agg (txC (x, u)).toArray] w fun e w' => e = .returned (.int .u64 (outV x)) ∧ Below w.heap.size w w' := by
  obtain ⟨u1, u2⟩ := u
  change Calls _ _ #[.agg #[u1, u2, .int .u64 x.nonce]] _ _
  obtain ⟨a0, c0, he⟩ := hi.slice
  change u1 = _ at he
  subst he
  obtain ⟨a2, c2, he⟩ := ho.slice
  change u2 = _ at he
  subst he
  obtain ⟨N, hN⟩ : ∃ N, N = x.ins.length := ⟨_, rfl⟩
  obtain ⟨K, hK⟩ : ∃ K, K = x.outs.length := ⟨_, rfl⟩
  rw [← hN] at hi
  rw [← hK] at ho
  rw [← hN, ← hK]
  have HI := Lib.hid hi
  have HO := Lib.hid ho
  have HW := Lib.hid hwf
  have HI0 : Hid (Ins F w ((Value.slice a0 N c0, Value.slice a2 K c2) : Value × Value).1 x.ins) := HI
  have HO0 : Hid (Outs F w ((Value.slice a0 N c0, Value.slice a2 K c2) : Value × Value).2 x.outs) := HO
  have HKK := Lib.hid hK
  obtain ⟨hou, hrou⟩ := ho
  rw [← hK] at hrou
  change RdF F w 33 (.slice a2 K c2) K _ at hrou
  have bK' : (K : Int) ≤ 9223372036854775807 := rd_small' hrou.1
  have HR := Lib.hid hrou.1
  have HOK := Lib.hid hou
  obtain ⟨Z, hZ⟩ : ∃ Z, Z = outV x := ⟨_, rfl⟩
  rw [← hZ]
  have HZ := Lib.hid hZ
  have C := fun w' (hb : Below w.heap.size w w') => may_any F w' x (.slice a0 N c0, .slice a2 K c2) (HI0.out.fresh hb) (HO0.out.fresh hb) hwf
  by_cases h0 : checkE x = 0
  rotate_left
  · rw [decide_eq_false h0] at C
    have hz : Hid (Z = 0) := Lib.hid (by rw [HZ.out, outV, if_neg h0])
    replace C := Lib.hid C
    clear hN hK hi hou hrou hwf h0 hZ
    go_enter Try.func29, Try.ntmps29
    go_wp2_with (with_reducible refine stopAt 6 ?_)
    refine Stop.go ?_
    obtain ⟨w1, h1, k1, b1, s1⟩ := alloc_cb w 37 [.slice a0 N c0, .slice a2 K c2, .int .u64 x.nonce]
    change wpList _ _ _ _ _ (w.alloc (.cells [.slice a0 N c0, .slice a2 K c2, .int .u64 x.nonce].toArray 37))
    rw [← h1]
    have K1 : Hid (CB w1 37 w.heap.size [.slice a0 N c0, .slice a2 K c2, .int .u64 x.nonce]) := Lib.hid k1
    have BB := Lib.hid b1
    clear h1 k1 b1 s1
    refine wpList_load_agg rfl 37 (.tmp 1) rfl ⟨w.heap.size, 0, none⟩ rfl [.slice a0 N c0, .slice a2 K c2, .int .u64 x.nonce] _ (At.block K1.out).load Try.underlying37 rfl (by exact infoTx) ?_
    go_wp2_with fail
    refine (C.out w1 BB.out).mono ?_
    rintro e w3 ⟨rfl, b3⟩
    replace BB := Lib.hid (BB.out.tr b3)
    clear b3 C
    go_wp2
    go_ret
    exact ⟨by rw [hz.out] <;> rfl, BB.out⟩
  rw [decide_eq_true h0] at C
  have hz : Hid (Z = sumW (amts x)) := Lib.hid (by rw [HZ.out, outV, if_pos h0])
  replace C := Lib.hid C
  clear hN hK hi hou hrou hwf h0 hZ
  go_enter Try.func29, Try.ntmps29
  go_wp2_with (with_reducible refine stopAt 6 ?_)
  refine Stop.go ?_
  obtain ⟨w1, h1, k1, b1, s1⟩ := alloc_cb w 37 [.slice a0 N c0, .slice a2 K c2, .int .u64 x.nonce]
  change wpList _ _ _ _ _ (w.alloc (.cells [.slice a0 N c0, .slice a2 K c2, .int .u64 x.nonce].toArray 37))
  rw [← h1]
  have K1 : Hid (CB w1 37 w.heap.size [.slice a0 N c0, .slice a2 K c2, .int .u64 x.nonce]) := Lib.hid k1
  have BB := Lib.hid b1
  clear h1 k1 b1 s1
  refine wpList_load_agg rfl 37 (.tmp 1) rfl ⟨w.heap.size, 0, none⟩ rfl [.slice a0 N c0, .slice a2 K c2, .int .u64 x.nonce] _ (At.block K1.out).load Try.underlying37 rfl (by exact infoTx) ?_
  go_wp2_with fail
  refine (C.out w1 BB.out).mono ?_
  rintro e w3 ⟨rfl, b3⟩
  replace BB := Lib.hid (BB.out.tr b3)
  replace K1 := Lib.hid (K1.out.fresh b3)
  clear b3 C
  have hc1 := K1.out.cell 1 _ rfl
  go_wp2
  clear hc1
  go_loopw [3, 5, 11] (fun v3 v5 v11 wr => Below w.heap.size w wr ∧ ∃ k : Nat, k ≤ K ∧ v11 = .int .i64 (k : Int) ∧ v3 = .int .u64 (sumW ((amts x).take k)))
    (fun _ _ v _ => K - (RowKit.intOf v).toNat)
  case atStart => exact ⟨BB.out, 0, Nat.zero_le _, rfl, rfl⟩
  case round =>
    obtain ⟨hb, k, hk, rfl, rfl⟩ := hrel
    replace BB := Lib.hid hb
    clear hb
    by_cases hlt : k < K
    · obtain ⟨o, hx⟩ : ∃ z, x.outs[k]? = some z := ⟨_, List.getElem?_eq_getElem (by rw [← HKK.out]; exact hlt)⟩
      obtain ⟨ad, c, he⟩ := rd_some HR.out (by omega)
      simp only [Value.slice.injEq, true_and] at he
      obtain ⟨rfl, rfl⟩ := he
      have HC2 := Lib.hid ((HR.out.fresh BB.out).at (fun z hz => outC_length (HOK.out z hz)) hx)
      have HX := Lib.hid (And.intro hx (HOK.out o (List.mem_of_getElem? hx)))
      have ik : (k : Int) < (K : Int) := by omega
      have HK := Lib.hid hlt
      obtain ⟨S, hS⟩ : ∃ S, S = sumW ((amts x).take k) := ⟨_, rfl⟩
      rw [← hS]
      have HS := Lib.hid hS
      clear hx hlt hk hS
      go_wp2_with (with_reducible refine stopAt 14 ?_)
      refine Stop.go ?_
      refine wpList_load_agg rfl 46 (.tmp 13) rfl (ad.add (k * 33)) rfl (outC o) _ HC2.out Try.underlying46 rfl (by rw [outC_length HX.out.2]; exact infoOut1) ?_
      go_wp2_with (with_reducible refine stopStore 46 ?_)
      refine Stop.go ?_
      refine wpList_store_var rfl 46 (.tmp 5) (.tmp 14) rfl wr.heap.size _ rfl _ (outC o) rfl (heap_alloc_new wr _) (by rw [outC_length HX.out.2]; rfl) (outC_one o) (by rw [outC_length HX.out.2]; exact infoOut1) ?_
      intro w5 k5 o5
      have b5 : Below wr.heap.size wr w5 := Below.only ((Below.refl _ wr).alloc (Nat.le_refl _) _) o5 (Nat.le_refl _)
      obtain ⟨G5, hG5⟩ : ∃ g, g = wr.heap.size := ⟨_, rfl⟩
      rw [← hG5] at k5 ⊢
      replace BB := Lib.hid (BB.out.tr b5)
      have K5 : Hid (CB w5 46 G5 (outC o)) := Lib.hid k5
      clear k5 o5 b5 hG5 HC2
      have hca := K5.out.cell 0 _ rfl
      have Q := Lib.hid (sumW_next HX.out.1)
      go_wp2
      go_roundw
      case rel => exact ⟨BB.out, k + 1, HK.out, by go_num, by rw [Q.out, ← HS.out]⟩
      case measure => simp only [RowKit.intOf]; have := HK.out; omega
    · have ik : ¬ ((k : Int) < (K : Int)) := by omega
      have hf : Hid (sumW ((amts x).take k) = Z) := Lib.hid (by rw [hz.out, List.take_of_length_le (by rw [amts_len, ← HKK.out]; omega)])
      clear hlt hk
      go_wp2
      go_ret
      exact ⟨by rw [← hf.out] <;> rfl, BB.out⟩

set_option maxRecDepth 100000 in
set_option maxHeartbeats 4000000 in
theorem rout_any (F : Nat → Prop) (w : World) (x : TxD) (u : Value × Value) (hi : Ins F w u.1 x.ins) (ho : Outs F w u.2 x.outs) (hwf : TxWf x) :
    Calls Try.prog 30 #[.agg (txC (x, u)).toArray] w fun e w' => e = .returned (.int .u64 (outV x)) ∧ Below w.heap.size w w' := by
  obtain ⟨u1, u2⟩ := u
  change Calls _ _ #[.agg #[u1, u2, .int .u64 x.nonce]] _ _
  obtain ⟨a0, c0, he⟩ := hi.slice
  change u1 = _ at he
  subst he
  obtain ⟨a2, c2, he⟩ := ho.slice
  change u2 = _ at he
  subst he
  obtain ⟨N, hN⟩ : ∃ N, N = x.ins.length := ⟨_, rfl⟩
  obtain ⟨K, hK⟩ : ∃ K, K = x.outs.length := ⟨_, rfl⟩
  rw [← hN] at hi
  rw [← hK] at ho
  rw [← hN, ← hK]
  have HI := Lib.hid hi
  have HO := Lib.hid ho
  have HW := Lib.hid hwf
  have HI0 : Hid (Ins F w ((Value.slice a0 N c0, Value.slice a2 K c2) : Value × Value).1 x.ins) := HI
  have HO0 : Hid (Outs F w ((Value.slice a0 N c0, Value.slice a2 K c2) : Value × Value).2 x.outs) := HO
  have HKK := Lib.hid hK
  obtain ⟨hou, hrou⟩ := ho
  rw [← hK] at hrou
  change RdF F w 33 (.slice a2 K c2) K _ at hrou
  have bK' : (K : Int) ≤ 9223372036854775807 := rd_small' hrou.1
  have HR := Lib.hid hrou.1
  have HOK := Lib.hid hou
  obtain ⟨Z, hZ⟩ : ∃ Z, Z = outV x := ⟨_, rfl⟩
  rw [← hZ]
  have HZ := Lib.hid hZ
  have C := fun w' (hb : Below w.heap.size w w') => rmay_any F w' x (.slice a0 N c0, .slice a2 K c2) (HI0.out.fresh hb) (HO0.out.fresh hb) hwf
  obtain ⟨D, hD⟩ : ∃ D, D = decide (checkE x = 0) := ⟨_, rfl⟩
  rw [← hD] at C
  have HD := Lib.hid hD
  replace C := Lib.hid C
  clear hN hK hi hou hrou hwf hZ hD
  go_enter Try.func30, Try.ntmps30
  go_wp2
  go_loopw [3, 4] (fun v3 v4 wr => Below w.heap.size w wr ∧ CB wr 37 w.heap.size [.slice a0 N c0, .slice a2 K c2, .int .u64 x.nonce] ∧ ∃ k : Nat, k ≤ K ∧ v4 = .int .i64 (k : Int) ∧ v3 = .int .u64 (sumW ((amts x).take k)) ∧ (D = true ∨ k = 0))
    (fun _ v _ => K - (RowKit.intOf v).toNat)
  case atStart => exact ⟨(Below.refl _ w).alloc (Nat.le_refl _) _, CB.new w 37 [.slice a0 N c0, .slice a2 K c2, .int .u64 x.nonce], 0, Nat.zero_le _, rfl, rfl, .inr rfl⟩
  case round =>
    obtain ⟨hb, hk1, k, hk, rfl, rfl, hd⟩ := hrel
    have BB := Lib.hid hb
    have K1 := Lib.hid hk1
    have DD := Lib.hid hd
    clear hb hk1 hd
    have hc1 := K1.out.cell 1 _ rfl
    obtain ⟨S, hS⟩ : ∃ S, S = sumW ((amts x).take k) := ⟨_, rfl⟩
    rw [← hS]
    have HS := Lib.hid hS
    clear hS
    by_cases hlt : k < K
    · have ik : (k : Int) < (K : Int) := by omega
      have HK := Lib.hid hlt
      clear hlt hk
      go_wp2_with (with_reducible refine stopAt 11 ?_)
      refine Stop.go ?_
      refine wpList_unguard' rfl ?_
      refine wpList_load_agg rfl 37 (.tmp 1) rfl ⟨w.heap.size, 0, none⟩ rfl [.slice a0 N c0, .slice a2 K c2, .int .u64 x.nonce] _ (At.block K1.out).load Try.underlying37 rfl (by exact infoTx) ?_
      go_wp2_with fail
      refine (C.out wr BB.out).mono ?_
      rintro e w3 ⟨rfl, b3⟩
      replace BB := Lib.hid (BB.out.tr b3)
      replace K1 := Lib.hid (K1.out.fresh b3)
      clear b3 hc1
      cases D with
      | false =>
        have hf : Hid (S = Z) := Lib.hid (by
          rcases DD.out with h | h
          · cases h
          · have hne : ¬ checkE x = 0 := by have := HD.out; intro h; rw [decide_eq_true h] at this; cases this
            rw [HZ.out, outV, if_neg hne, HS.out, h]
            rfl)
        go_wp2
        go_ret
        exact ⟨by rw [← hf.out] <;> rfl, BB.out⟩
      | true =>
        obtain ⟨o, hx⟩ : ∃ z, x.outs[k]? = some z := ⟨_, List.getElem?_eq_getElem (by rw [← HKK.out]; exact HK.out)⟩
        obtain ⟨ad, c, he⟩ := rd_some HR.out (by have := HK.out; omega)
        simp only [Value.slice.injEq, true_and] at he
        obtain ⟨rfl, rfl⟩ := he
        have hca := ((HR.out.fresh BB.out).at (fun z hz => outC_length (HOK.out z hz)) hx) 0 _ rfl
        rw [add_zero_addr] at hca
        have HX := Lib.hid hx
        have Q := Lib.hid (sumW_next hx)
        have hc1 := K1.out.cell 1 _ rfl
        clear hx
        go_wp2
        go_roundw
        case rel => exact ⟨BB.out, K1.out, k + 1, HK.out, by go_num, by rw [Q.out, ← HS.out], by simp⟩
        case measure => simp only [RowKit.intOf]; have := HK.out; omega
    · have ik : ¬ ((k : Int) < (K : Int)) := by omega
      have hf : Hid (S = Z) := Lib.hid (by
        rw [HS.out, HZ.out]
        rcases DD.out with h | h
        · have he : checkE x = 0 := by have := HD.out; rw [h] at this; exact of_decide_eq_true this.symm
          rw [outV, if_pos he, List.take_of_length_le (by rw [amts_len, ← HKK.out]; omega)]
        · have hK0 : K = 0 := by omega
          have hnil : amts x = [] := List.eq_nil_of_length_eq_zero (by rw [amts_len, ← HKK.out, hK0])
          unfold outV
          rw [hnil]
          split <;> simp [sumW])
      clear hlt hk
      go_wp2
      go_ret
      exact ⟨by rw [← hf.out] <;> rfl, BB.out⟩

set_option maxRecDepth 100000 in
theorem lock_any (w : World) (v : Value) (xs : Bs) (h : Rd w 1 v xs.length (bvs xs)) (hl : xs.length ≤ 1000000) :
    Calls Try.prog 31 #[v] w fun e w' => e = .returned (.agg (bvs (shaB xs)).toArray) ∧ Below w.heap.size w w' := by
  obtain ⟨a, c, rfl⟩ := h.slice
  obtain ⟨Z, hZ⟩ : ∃ Z, Z = shaB xs := ⟨_, rfl⟩
  have HZl : Hid (Z.length = 32) := Lib.hid (by rw [hZ]; exact shaB_length _)
  have HZ := Lib.hid hZ
  rw [← hZ]
  have HR := Lib.hid h
  have HL := Lib.hid hl
  clear h hl hZ
  go_enter Try.func31, Try.ntmps31
  go_wp2_with fail
  obtain ⟨w1, h1, k1, b1, s1⟩ := alloc_cb w 24 (bvs (List.replicate 32 0))
  obtain ⟨w5, h5, p5, b5, s5⟩ := alloc_one w1 42 (.slice a xs.length c) xs (HR.out.fresh b1)
  change Calls _ _ _ ((w.alloc (.cells (bvs (List.replicate 32 0)).toArray 24)).alloc (.cells #[.slice a xs.length c] 42)) _
  rw [← h1, ← h5]
  rw [s1] at p5
  have C5 := sum_any w5 _ [xs] p5 (by simp) (by simpa using (by have := HL.out; omega))
  rw [show shaB ([xs] : List Bs).flatten = Z by rw [HZ.out, List.flatten_cons, List.flatten_nil, List.append_nil]] at C5
  have BB := Lib.hid (b1.tr b5)
  have K2 := Lib.hid (k1.fresh b5)
  clear h1 k1 b1 s1 h5 p5 b5 s5
  refine (C5).mono ?_
  rintro e w6 ⟨rfl, b6⟩
  replace BB := Lib.hid (BB.out.tr b6)
  replace K2 := Lib.hid (K2.out.fresh b6)
  clear b6 C5
  go_wp2_with (with_reducible refine stopStore 24 ?_)
  refine Stop.go ?_
  refine wpList_store_var rfl 24 (.tmp 2) (.tmp 5) rfl (w.heap.size) _ rfl _ (bvs Z) rfl K2.out (by simp [HZl.out]) (bvs_one _) (by rw [bvs_length, HZl.out]; exact infoHash) ?_
  intro wf kf of
  have BF : Hid (Below w.heap.size w wf) := Below.only BB.out of (by omega)
  have KF := Lib.hid kf
  clear kf of
  go_wp2
  exact bodyPost_ret (results_cell1 rfl _ _ (w.heap.size) _ _ _ _ rfl KF.out Try.underlying24 rfl (by simp [HZl.out, infoHash])) rfl ⟨rfl, BF.out⟩

end Go.Proofs.Ytkbahhnjoidhcaa
