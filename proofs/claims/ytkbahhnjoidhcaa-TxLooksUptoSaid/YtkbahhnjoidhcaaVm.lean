/- tx.Spends, the reference's: the walks. -/
import Derived.Test.YtkbahhnjoidhcaaVl
namespace Go.Proofs.Ytkbahhnjoidhcaa
set_option linter.unusedVariables false
set_option linter.unusedSimpArgs false
open Go.RowKit

set_option maxRecDepth 100000 in
set_option maxHeartbeats 4000000 in
theorem spends_any (F G : Nat → Prop) (w : World) (x y : TxD) (u v : Value × Value) (hi : Ins F w u.1 x.ins) (ho : Outs F w u.2 x.outs) (hi' : Ins G w v.1 y.ins) (ho' : Outs G w v.2 y.outs) :
    Calls Try.prog 27 #[.agg (txC (x, u)).toArray, .agg (txC (y, v)).toArray] w fun e w' => e = .returned (.bool (spendsB x y)) ∧ Below w.heap.size w w' := by
  obtain ⟨u1, u2⟩ := u
  obtain ⟨v1, v2⟩ := v
  change Calls _ _ #[.agg #[u1, u2, .int .u64 x.nonce], .agg #[v1, v2, .int .u64 y.nonce]] _ _
  obtain ⟨a0, c0, he⟩ := hi.slice
  change u1 = _ at he
  subst he
  obtain ⟨a2, c2, he⟩ := ho.slice
  change u2 = _ at he
  subst he
  obtain ⟨a1, c1, he⟩ := hi'.slice
  change v1 = _ at he
  subst he
  obtain ⟨a3, c3, he⟩ := ho'.slice
  change v2 = _ at he
  subst he
  obtain ⟨N, hN⟩ : ∃ N, N = x.ins.length := ⟨_, rfl⟩
  obtain ⟨K, hK⟩ : ∃ K, K = x.outs.length := ⟨_, rfl⟩
  obtain ⟨M, hM⟩ : ∃ M, M = y.ins.length := ⟨_, rfl⟩
  obtain ⟨L, hL⟩ : ∃ L, L = y.outs.length := ⟨_, rfl⟩
  rw [← hN] at hi
  rw [← hK] at ho
  rw [← hM] at hi'
  rw [← hL] at ho'
  rw [← hN, ← hK, ← hM, ← hL]
  have HI : Hid (Ins F w (.slice a0 N c0) x.ins) := Lib.hid hi
  have HO : Hid (Outs F w (.slice a2 K c2) x.outs) := Lib.hid ho
  have HI' : Hid (Ins G w (.slice a1 M c1) y.ins) := Lib.hid hi'
  have HO' : Hid (Outs G w (.slice a3 L c3) y.outs) := Lib.hid ho'
  have HOKN := Lib.hid (And.intro hN hi.ok)
  obtain ⟨us, hlu, _, hru, heu⟩ := hi
  rw [← hN] at hlu hru
  change RdF F w 34 (.slice a0 N c0) N _ at hru
  have bN' : (N : Int) ≤ 9223372036854775807 := rd_small' hru.1
  have HRI := Lib.hid hru.1
  have HEI := Lib.hid (And.intro hlu heu)
  obtain ⟨R, hR⟩ : ∃ R, R = spendsB x y := ⟨_, rfl⟩
  rw [← hR]
  have HR := Lib.hid hR
  clear hN hK hM hL ho hi' ho' hlu hru heu hR
  have hmm := @run_makeMap Try.prog
  go_enter Try.func27, Try.ntmps27
  go_wp2_with (with_reducible refine stopAt 8 ?_)
  refine Stop.go ?_
  obtain ⟨w1, h1, k1, b1, s1⟩ := alloc_cb w 37 [.slice a0 N c0, .slice a2 K c2, .int .u64 x.nonce]
  obtain ⟨w2, h2, k2, b2, s2⟩ := alloc_cb w1 37 [.slice a1 M c1, .slice a3 L c3, .int .u64 y.nonce]
  change wpList _ _ _ _ _ ((w.alloc (.cells [.slice a0 N c0, .slice a2 K c2, .int .u64 x.nonce].toArray 37)).alloc (.cells [.slice a1 M c1, .slice a3 L c3, .int .u64 y.nonce].toArray 37))
  rw [← h1, ← h2]
  rw [s1] at k2 s2
  have K1 : Hid (CB w2 37 w.heap.size [.slice a0 N c0, .slice a2 K c2, .int .u64 x.nonce]) := Lib.hid (k1.fresh b2)
  have K2 : Hid (CB w2 37 (w.heap.size + 1) [.slice a1 M c1, .slice a3 L c3, .int .u64 y.nonce]) := Lib.hid k2
  have BB := Lib.hid (b1.tr b2)
  have S2 : Hid (w2.heap.size = w.heap.size + 2) := Lib.hid s2
  clear h1 k1 b1 s1 h2 k2 b2 s2
  go_wp2_with (with_reducible refine stopAt 5 ?_)
  refine Stop.go ?_
  clear hmm
  obtain ⟨w3, hw3⟩ : ∃ w3, w3 = w2.alloc (.map #[] 0) := ⟨_, rfl⟩
  have hM := MapSet.new w2
  have b3 : Below w2.heap.size w2 w3 := by rw [hw3]; exact (Below.refl _ w2).alloc (Nat.le_refl _) _
  have s3 : w3.heap.size = w.heap.size + 3 := by rw [hw3, show (w2.alloc (Obj.map #[] 0)).heap.size = w2.heap.size + 1 from Array.size_push _, S2.out]
  rw [← hw3] at hM ⊢
  rw [S2.out] at hM ⊢
  have KM := Lib.hid hM
  replace BB := Lib.hid (BB.out.tr b3)
  replace K1 := Lib.hid (K1.out.fresh b3)
  replace K2 := Lib.hid (K2.out.fresh b3)
  have S3 := Lib.hid s3
  clear hM b3 s3 hw3
  go_wp2_with (with_reducible refine stopAt 9 ?_)
  refine Stop.go ?_
  obtain ⟨w4, h4, k4, b4, s4⟩ := alloc_cb w3 78 [.map (some (w.heap.size + 2))]
  change wpList _ _ _ _ _ (w3.alloc (.cells [.map (some (w.heap.size + 2))].toArray 78))
  rw [← h4]
  obtain ⟨M0, hM0⟩ : ∃ m, m = w.heap.size + 2 := ⟨_, rfl⟩
  obtain ⟨G5, hG5⟩ : ∃ g, g = w3.heap.size := ⟨_, rfl⟩
  have LM : Hid (w.heap.size ≤ M0 ∧ M0 < G5 ∧ w.heap.size + 1 < M0) := Lib.hid ⟨by omega, by rw [hM0, hG5, S3.out]; omega, by omega⟩
  rw [← hM0] at k4 KM ⊢
  rw [← hG5] at k4 ⊢
  replace BB := Lib.hid (BB.out.tr b4)
  replace K1 := Lib.hid (K1.out.fresh b4)
  replace K2 := Lib.hid (K2.out.fresh b4)
  replace KM := Lib.hid (KM.out.fresh b4)
  have KG := Lib.hid k4
  clear h4 k4 b4 s4 hM0 hG5 S3 S2
  have hc0 := K1.out.cell 0 _ rfl
  go_wp2
  clear hc0
  go_loopw [7, 12] (fun v7 v12 wr => Below w.heap.size w wr ∧ CB wr 37 (w.heap.size + 1) [.slice a1 M c1, .slice a3 L c3, .int .u64 y.nonce] ∧ CB wr 78 G5 [.map (some M0)] ∧ ∃ (k : Nat) (l : List InD), k ≤ N ∧ v12 = .int .i64 (k : Int) ∧ MapSet wr M0 l ∧ ∀ z, inSet l z = inSet (x.ins.take k) z)
    (fun _ v _ => N - (RowKit.intOf v).toNat)
  case atStart => exact ⟨BB.out, K2.out, KG.out, 0, [], Nat.zero_le _, rfl, KM.out, fun z => rfl⟩
  case round =>
    obtain ⟨hb, hk2, hg, k, l, hk, rfl, hm, hs⟩ := hrel
    replace BB := Lib.hid hb
    replace K2 := Lib.hid hk2
    replace KG := Lib.hid hg
    replace KM := Lib.hid hm
    have SS := Lib.hid hs
    clear hb hk2 hg hm hs
    by_cases hlt : k < N
    · obtain ⟨xi, hx⟩ : ∃ z, x.ins[k]? = some z := ⟨_, List.getElem?_eq_getElem (by rw [← HOKN.out.1]; exact hlt)⟩
      obtain ⟨ux, hux⟩ : ∃ z, us[k]? = some z := ⟨_, List.getElem?_eq_getElem (by rw [HEI.out.1]; exact hlt)⟩
      obtain ⟨ad, c, he⟩ := rd_some HRI.out (by omega)
      simp only [Value.slice.injEq, true_and] at he
      obtain ⟨rfl, rfl⟩ := he
      have hz : (x.ins.zip us)[k]? = some (xi, ux) := by rw [List.getElem?_zip_eq_some]; exact ⟨hx, hux⟩
      have hon : ux.oneCell' = true := by obtain ⟨_, _, e⟩ := (HEI.out.2 k xi ux hx hux).1.slice; rw [e]; rfl
      have HX := Lib.hid (And.intro hx (And.intro (HOKN.out.2 xi (List.mem_of_getElem? hx)) hon))
      have HC := Lib.hid ((HRI.out.fresh BB.out).at (fun z hz => inC_length (HOKN.out.2 _ (List.of_mem_zip hz).1)) hz)
      have ik : (k : Int) < (N : Int) := by omega
      have HK := Lib.hid hlt
      clear hx hux hz hon hlt hk
      go_wp2_with (with_reducible refine stopAt 15 ?_)
      refine Stop.go ?_
      refine wpList_load_agg rfl 44 (.tmp 14) rfl (ad.add (k * 34)) rfl (inC (xi, ux)) _ HC.out Try.underlying44 rfl (by rw [inC_length HX.out.2.1]; exact infoIn) ?_
      go_wp2_with (with_reducible refine stopStore 44 ?_)
      refine Stop.go ?_
      refine wpList_store_var rfl 44 (.tmp 7) (.tmp 15) rfl wr.heap.size _ rfl _ (inC (xi, ux)) rfl (heap_alloc_new wr _) (by rw [inC_length HX.out.2.1]; rfl) (inC_one xi _ HX.out.2.2) (by rw [inC_length HX.out.2.1]; exact infoIn) ?_
      intro w5 k5 o5
      have b5 : Below wr.heap.size wr w5 := Below.only ((Below.refl _ wr).alloc (Nat.le_refl _) _) o5 (Nat.le_refl _)
      obtain ⟨G7, hG7⟩ : ∃ g, g = wr.heap.size := ⟨_, rfl⟩
      rw [← hG7] at k5 ⊢
      replace BB := Lib.hid (BB.out.tr b5)
      replace K2 := Lib.hid (K2.out.fresh b5)
      replace KG := Lib.hid (KG.out.fresh b5)
      replace KM := Lib.hid (KM.out.fresh b5)
      have K5 : Hid (CB w5 44 G7 (inC (xi, ux))) := Lib.hid k5
      clear k5 o5 b5 hG7 HC
      have hcm := KG.out.cell 0 _ rfl
      go_wp2_with (with_reducible refine stopAt 18 ?_)
      refine Stop.go ?_
      clear hcm
      refine wpList_load_agg rfl 41 (.tmp 17) rfl ⟨G7, 0, none⟩ rfl (ptC xi) _ (At.load (At.pre (by have h := At.block K5.out; rw [inC_pt] at h; exact h))) Try.underlying41 rfl (by rw [ptC_length HX.out.2.1]; exact infoPt) ?_
      go_wp2_with (at_mapUpdate; apply Stop.mk)
      refine Stop.go ?_
      refine wpList_update_set rfl (.tmp 16) (.tmp 18) (.tmp 19) rfl M0 _ xi rfl rfl rfl KM.out HX.out.2.1 ?_
      intro w6 m6 o6
      have Q1 : Hid (Below w.heap.size w w6) := Lib.hid (Below.only BB.out o6 LM.out.1)
      have Q2 := Lib.hid (K2.out.only o6 (by have := LM.out; omega))
      have Q3 := Lib.hid (KG.out.only o6 (by have := LM.out; omega))
      have Q4 := Lib.hid m6
      have Q5 : Hid (∀ z, inSet (if inSet l xi then l else l ++ [xi]) z = inSet (x.ins.take (k + 1)) z) := Lib.hid (by
        rw [List.take_add_one, HX.out.1]
        exact inSet_put SS.out)
      clear m6 o6
      go_wp2
      go_roundw
      case rel => exact ⟨Q1.out, Q2.out, Q3.out, k + 1, _, HK.out, by go_num, Q4.out, Q5.out⟩
      case measure => simp only [RowKit.intOf]; have := HK.out; omega
    · have ik : ¬ ((k : Int) < (N : Int)) := by omega
      have hall : Hid (∀ z, inSet l z = inSet x.ins z) := Lib.hid (by
        have h := SS.out
        rwa [List.take_of_length_le (by rw [← HOKN.out.1]; omega)] at h)
      have hc1 := K2.out.cell 0 _ rfl
      have C := containsIn_any G wr G5 M0 l (.slice a1 M c1) y.ins (HI'.out.fresh BB.out) KG.out KM.out
      rw [show (y.ins.any fun z => inSet l z) = R from by
        rw [HR.out, spendsB]
        congr 1
        funext z
        exact hall.out z] at C
      replace C := Lib.hid C
      clear hlt hk
      go_wp2_with fail
      refine (C.out).mono ?_
      rintro e w7 ⟨rfl, b7⟩
      have Q := Lib.hid (BB.out.tr b7)
      clear b7 hc1
      go_wp2
      go_ret
      exact ⟨rfl, Q.out⟩

set_option maxRecDepth 100000 in
set_option maxHeartbeats 4000000 in
theorem rspends_any (F G : Nat → Prop) (w : World) (x y : TxD) (u v : Value × Value) (hi : Ins F w u.1 x.ins) (ho : Outs F w u.2 x.outs) (hi' : Ins G w v.1 y.ins) (ho' : Outs G w v.2 y.outs) :
    Calls Try.prog 28 #[.agg (txC (x, u)).toArray, .agg (txC (y, v)).toArray] w fun e w' => e = .returned (.bool (spendsB x y)) ∧ Below w.heap.size w w' := by
  obtain ⟨u1, u2⟩ := u
  obtain ⟨v1, v2⟩ := v
  change Calls _ _ #[.agg #[u1, u2, .int .u64 x.nonce], .agg #[v1, v2, .int .u64 y.nonce]] _ _
  obtain ⟨a0, c0, he⟩ := hi.slice
  change u1 = _ at he
  subst he
  obtain ⟨a2, c2, he⟩ := ho.slice
  change u2 = _ at he
  subst he
  obtain ⟨a1, c1, he⟩ := hi'.slice
  change v1 = _ at he
  subst he
  obtain ⟨a3, c3, he⟩ := ho'.slice
  change v2 = _ at he
  subst he
  obtain ⟨N, hN⟩ : ∃ N, N = x.ins.length := ⟨_, rfl⟩
  obtain ⟨K, hK⟩ : ∃ K, K = x.outs.length := ⟨_, rfl⟩
  obtain ⟨M, hM⟩ : ∃ M, M = y.ins.length := ⟨_, rfl⟩
  obtain ⟨L, hL⟩ : ∃ L, L = y.outs.length := ⟨_, rfl⟩
  rw [← hN] at hi
  rw [← hK] at ho
  rw [← hM] at hi'
  rw [← hL] at ho'
  rw [← hN, ← hK, ← hM, ← hL]
  have HI : Hid (Ins F w (.slice a0 N c0) x.ins) := Lib.hid hi
  have HO : Hid (Outs F w (.slice a2 K c2) x.outs) := Lib.hid ho
  have HI' : Hid (Ins G w (.slice a1 M c1) y.ins) := Lib.hid hi'
  have HO' : Hid (Outs G w (.slice a3 L c3) y.outs) := Lib.hid ho'
  have HOKN := Lib.hid (And.intro hN (And.intro hi.ok (And.intro hM hi'.ok)))
  obtain ⟨us, hlu, _, hru, heu⟩ := hi
  obtain ⟨vs, hlv, _, hrv, hev⟩ := hi'
  rw [← hN] at hlu hru
  rw [← hM] at hlv hrv
  change RdF F w 34 (.slice a0 N c0) N _ at hru
  change RdF G w 34 (.slice a1 M c1) M _ at hrv
  have bN' : (N : Int) ≤ 9223372036854775807 := rd_small' hru.1
  have bM' : (M : Int) ≤ 9223372036854775807 := rd_small' hrv.1
  have HRI := Lib.hid (And.intro hru.1 hrv.1)
  have HEI := Lib.hid (And.intro hlu hlv)
  have HZL : Hid ((∀ z ∈ x.ins.zip us, (inC z).length = 34) ∧ ∀ z ∈ y.ins.zip vs, (inC z).length = 34) := Lib.hid ⟨fun z hz => inC_length (HOKN.out.2.1 _ (List.of_mem_zip hz).1), fun z hz => inC_length (HOKN.out.2.2.2 _ (List.of_mem_zip hz).1)⟩
  obtain ⟨R, hR⟩ : ∃ R, R = spendsB x y := ⟨_, rfl⟩
  rw [← hR]
  have HR : Hid (R = x.ins.any fun a => y.ins.any fun b => samePt a b) := Lib.hid (by rw [spends_turn]; exact hR)
  clear hN hK hM hL ho ho' hlu hru heu hlv hrv hev hR
  go_enter Try.func28, Try.ntmps28
  go_wp2
  go_loopw [5] (fun v5 wr => Below w.heap.size w wr ∧ CB wr 37 w.heap.size [.slice a0 N c0, .slice a2 K c2, .int .u64 x.nonce] ∧ CB wr 37 (w.heap.size + 1) [.slice a1 M c1, .slice a3 L c3, .int .u64 y.nonce] ∧ ∃ i : Nat, i ≤ N ∧ v5 = .int .i64 (i : Int) ∧ ((x.ins.take i).any fun a => y.ins.any fun b => samePt a b) = false)
    (fun v _ => N - (RowKit.intOf v).toNat)
  case atStart =>
    obtain ⟨w1, h1, k1, b1, s1⟩ := alloc_cb w 37 [.slice a0 N c0, .slice a2 K c2, .int .u64 x.nonce]
    obtain ⟨w2, h2, k2, b2, s2⟩ := alloc_cb w1 37 [.slice a1 M c1, .slice a3 L c3, .int .u64 y.nonce]
    rw [s1] at k2
    rw [h1] at h2
    have h3 : w2 = ((w.alloc (.cells #[.slice a0 N c0, .slice a2 K c2, .int .u64 x.nonce] 37)).alloc (.cells #[.slice a1 M c1, .slice a3 L c3, .int .u64 y.nonce] 37)) := h2
    rw [← h3]
    exact ⟨b1.tr b2, k1.fresh b2, k2, 0, Nat.zero_le _, rfl, rfl⟩
  case round =>
    obtain ⟨hb, hk1, hk2, i, hi, rfl, hn⟩ := hrel
    have BB := Lib.hid hb
    have K1 := Lib.hid hk1
    have K2 := Lib.hid hk2
    have NN := Lib.hid hn
    clear hb hk1 hk2 hn
    have hc0 := K1.out.cell 0 _ rfl
    by_cases hlt : i < N
    · obtain ⟨xi, hx⟩ : ∃ z, x.ins[i]? = some z := ⟨_, List.getElem?_eq_getElem (by rw [← HOKN.out.1]; exact hlt)⟩
      obtain ⟨ux, hux⟩ : ∃ z, us[i]? = some z := ⟨_, List.getElem?_eq_getElem (by rw [HEI.out.1]; exact hlt)⟩
      obtain ⟨ad, c, he⟩ := rd_some HRI.out.1 (by omega)
      simp only [Value.slice.injEq, true_and] at he
      obtain ⟨rfl, rfl⟩ := he
      have hz : (x.ins.zip us)[i]? = some (xi, ux) := by rw [List.getElem?_zip_eq_some]; exact ⟨hx, hux⟩
      have HX := Lib.hid (And.intro hx (And.intro (HOKN.out.2.1 xi (List.mem_of_getElem? hx)) hz))
      have ii : (i : Int) < (N : Int) := by omega
      have HK := Lib.hid hlt
      clear hx hux hz hlt hi
      go_wp2
      clear hc0
      go_loopw [6] (fun v6 wr => Below w.heap.size w wr ∧ CB wr 37 w.heap.size [.slice (some ad) N c0, .slice a2 K c2, .int .u64 x.nonce] ∧ CB wr 37 (w.heap.size + 1) [.slice a1 M c1, .slice a3 L c3, .int .u64 y.nonce] ∧ ∃ k : Nat, k ≤ M ∧ v6 = .int .i64 (k : Int) ∧ ((y.ins.take k).any fun b => samePt xi b) = false)
        (fun v _ => M - (RowKit.intOf v).toNat)
      case atStart => exact ⟨BB.out, K1.out, K2.out, 0, Nat.zero_le _, rfl, rfl⟩
      case round =>
        obtain ⟨hb, hk1, hk2, k, hk, rfl, hn⟩ := hrel
        replace BB := Lib.hid hb
        replace K1 := Lib.hid hk1
        replace K2 := Lib.hid hk2
        have MM := Lib.hid hn
        clear hb hk1 hk2 hn
        have hc1 := K2.out.cell 0 _ rfl
        by_cases hlt : k < M
        · obtain ⟨yk, hy⟩ : ∃ z, y.ins[k]? = some z := ⟨_, List.getElem?_eq_getElem (by rw [← HOKN.out.2.2.1]; exact hlt)⟩
          obtain ⟨uy, huy⟩ : ∃ z, vs[k]? = some z := ⟨_, List.getElem?_eq_getElem (by rw [HEI.out.2]; exact hlt)⟩
          obtain ⟨bd, cb, he⟩ := rd_some HRI.out.2 (by omega)
          simp only [Value.slice.injEq, true_and] at he
          obtain ⟨rfl, rfl⟩ := he
          have hz : (y.ins.zip vs)[k]? = some (yk, uy) := by rw [List.getElem?_zip_eq_some]; exact ⟨hy, huy⟩
          have HY := Lib.hid (And.intro hy (And.intro (HOKN.out.2.2.2 yk (List.mem_of_getElem? hy)) hz))
          obtain ⟨S, hS0⟩ : ∃ S, S = samePt xi yk := ⟨_, rfl⟩
          have HSS := Lib.hid hS0
          have ik : (k : Int) < (M : Int) := by omega
          have HK2 := Lib.hid hlt
          have hS : Hid (CB wr.drew 37 w.heap.size [.slice (some ad) N c0, .slice a2 K c2, .int .u64 x.nonce] ∧ CB wr.drew 37 (w.heap.size + 1) [.slice (some bd) M c1, .slice a3 L c3, .int .u64 y.nonce] ∧ Rd wr.drew 34 (.slice (some ad) N c0) N ((x.ins.zip us).flatMap inC) ∧ Rd wr.drew 34 (.slice (some bd) M c1) M ((y.ins.zip vs).flatMap inC)) := Lib.hid ⟨K1.out.drew, K2.out.drew, HRI.out.1.fresh BB.out.drew, HRI.out.2.fresh BB.out.drew⟩
          clear hy huy hz hS0 hlt hk
          go_wp2_with fail
          clear hc1
          refine pl_start 13 rfl (fun w' => CB w' 37 w.heap.size [.slice (some ad) N c0, .slice a2 K c2, .int .u64 x.nonce] ∧ CB w' 37 (w.heap.size + 1) [.slice (some bd) M c1, .slice a3 L c3, .int .u64 y.nonce] ∧ Rd w' 34 (.slice (some ad) N c0) N ((x.ins.zip us).flatMap inC) ∧ Rd w' 34 (.slice (some bd) M c1) M ((y.ins.zip vs).flatMap inC)) (by kernel_rfl) ?_
          obtain ⟨wd, hwd⟩ : ∃ wd, wd = wr.drew := ⟨_, rfl⟩
          have BD := Lib.hid BB.out.drew
          have K1d := Lib.hid K1.out.drew
          have K2d := Lib.hid K2.out.drew
          rw [← hwd] at hS BD K1d K2d ⊢
          clear hwd BB K1 K2
          refine pl_take (i := 0) 21 rfl rfl rfl (by kernel_rfl) (by kernel_rfl) (by kernel_rfl) (by simp [Act.put]) hS.out ?_
          apply Exists.intro
          refine And.intro (fun w' hS' => ?_) ?_
          · go_wp2
            first
              | exact ⟨trivial, rfl⟩
              | exact rfl
          refine pl_take (i := 1) 22 rfl rfl rfl (by kernel_rfl) (by kernel_rfl) (by kernel_rfl) (by simp [Act.put]) hS.out ?_
          apply Exists.intro
          refine And.intro (fun w' hS' => ?_) ?_
          · have hc := hS'.1.cell 0 _ rfl
            clear hS'
            go_wp2
            first
              | exact ⟨trivial, rfl⟩
              | exact rfl
          refine pl_take (i := 2) 23 rfl rfl rfl (by kernel_rfl) (by kernel_rfl) (by kernel_rfl) (by simp [Act.put]) hS.out ?_
          apply Exists.intro
          refine And.intro (fun w' hS' => ?_) ?_
          · go_wp2
            first
              | exact ⟨trivial, rfl⟩
              | exact rfl
          refine pl_take (i := 3) 24 rfl rfl rfl (by kernel_rfl) (by kernel_rfl) (by kernel_rfl) (by simp [Act.put]) hS.out ?_
          apply Exists.intro
          refine And.intro (fun w' hS' => ?_) ?_
          · clear hS'
            go_wp2
            first
              | exact ⟨trivial, rfl⟩
              | exact rfl
          refine pl_take (i := 4) 25 rfl rfl rfl (by kernel_rfl) (by kernel_rfl) (by kernel_rfl) (by simp [Act.put]) hS.out ?_
          apply Exists.intro
          refine And.intro (fun w' hS' => ?_) ?_
          · go_wp2
            first
              | exact ⟨trivial, rfl⟩
              | exact rfl
          refine pl_take (i := 5) 26 rfl rfl rfl (by kernel_rfl) (by kernel_rfl) (by kernel_rfl) (by simp [Act.put]) hS.out ?_
          apply Exists.intro
          refine And.intro (fun w' hS' => ?_) ?_
          · refine wpList_load_agg rfl 41 (.tmp 25) rfl (ad.add (i * 34)) rfl (ptC xi) _ (in_pt (hS'.2.2.1.at HZL.out.1 HX.out.2.2)) Try.underlying41 rfl (by rw [ptC_length HX.out.2.1]; exact infoPt) ?_
            clear hS'
            go_wp2
            exact ⟨trivial, rfl⟩
          refine pl_take (i := 6) 27 rfl rfl rfl (by kernel_rfl) (by kernel_rfl) (by kernel_rfl) (by simp [Act.put]) hS.out ?_
          apply Exists.intro
          refine And.intro (fun w' hS' => ?_) ?_
          · go_wp2
            first
              | exact ⟨trivial, rfl⟩
              | exact rfl
          refine pl_take (i := 7) 28 rfl rfl rfl (by kernel_rfl) (by kernel_rfl) (by kernel_rfl) (by simp [Act.put]) hS.out ?_
          apply Exists.intro
          refine And.intro (fun w' hS' => ?_) ?_
          · have hc := hS'.2.1.cell 0 _ rfl
            clear hS'
            go_wp2
            first
              | exact ⟨trivial, rfl⟩
              | exact rfl
          refine pl_take (i := 8) 29 rfl rfl rfl (by kernel_rfl) (by kernel_rfl) (by kernel_rfl) (by simp [Act.put]) hS.out ?_
          apply Exists.intro
          refine And.intro (fun w' hS' => ?_) ?_
          · go_wp2
            first
              | exact ⟨trivial, rfl⟩
              | exact rfl
          refine pl_take (i := 9) 30 rfl rfl rfl (by kernel_rfl) (by kernel_rfl) (by kernel_rfl) (by simp [Act.put]) hS.out ?_
          apply Exists.intro
          refine And.intro (fun w' hS' => ?_) ?_
          · clear hS'
            go_wp2
            first
              | exact ⟨trivial, rfl⟩
              | exact rfl
          refine pl_take (i := 10) 31 rfl rfl rfl (by kernel_rfl) (by kernel_rfl) (by kernel_rfl) (by simp [Act.put]) hS.out ?_
          apply Exists.intro
          refine And.intro (fun w' hS' => ?_) ?_
          · go_wp2
            first
              | exact ⟨trivial, rfl⟩
              | exact rfl
          refine pl_take (i := 11) 32 rfl rfl rfl (by kernel_rfl) (by kernel_rfl) (by kernel_rfl) (by simp [Act.put]) hS.out ?_
          apply Exists.intro
          refine And.intro (fun w' hS' => ?_) ?_
          · refine wpList_load_agg rfl 41 (.tmp 31) rfl (bd.add (k * 34)) rfl (ptC yk) _ (in_pt (hS'.2.2.2.at HZL.out.2 HY.out.2.2)) Try.underlying41 rfl (by rw [ptC_length HY.out.2.1]; exact infoPt) ?_
            clear hS'
            go_wp2
            exact ⟨trivial, rfl⟩
          refine pl_take (i := 12) 33 rfl rfl rfl (by kernel_rfl) (by kernel_rfl) (by kernel_rfl) (by simp [Act.put]) hS.out ?_
          apply Exists.intro
          refine And.intro (fun w' hS' => ?_) ?_
          · refine wpList_bin rfl .eql 41 41 (.tmp 26) (.tmp 32) rfl (.bool S) (eqGuard_agg _ _ _ _ _ _ _ (by kernel_rfl)) ((pt_eq w' xi yk HX.out.2.1 HY.out.2.1).trans (by rw [HSS.out]; rfl)) ?_
            clear hS'
            go_wp2
            exact ⟨trivial, rfl⟩
          refine pl_done (by kernel_rfl) ?_
          cases S
          · have Q := Lib.hid (show ((y.ins.take (k + 1)).any fun b => samePt xi b) = false by
              rw [List.take_add_one, HY.out.1, Option.toList, List.any_append, MM.out]
              simp [← HSS.out])
            go_wp2
            go_roundw
            case rel => exact ⟨BD.out, K1d.out, K2d.out, k + 1, HK2.out, by go_num, Q.out⟩
            case measure => simp only [RowKit.intOf]; have := HK2.out; omega
          · have hyes : Hid (R = true) := Lib.hid (by
              rw [HR.out, List.any_eq_true]
              refine ⟨xi, List.mem_of_getElem? HX.out.1, ?_⟩
              rw [List.any_eq_true]
              exact ⟨yk, List.mem_of_getElem? HY.out.1, HSS.out.symm⟩)
            go_wp2
            go_ret
            exact ⟨by rw [hyes.out] <;> rfl, BD.out⟩
        · have ik : ¬ ((k : Int) < (M : Int)) := by omega
          have Q := Lib.hid (show ((x.ins.take (i + 1)).any fun a => y.ins.any fun b => samePt a b) = false by
            have h := MM.out
            rw [List.take_of_length_le (by rw [← HOKN.out.2.2.1]; omega)] at h
            rw [List.take_add_one, HX.out.1, Option.toList, List.any_append, NN.out]
            simp [h])
          clear hlt hk
          go_wp2
          go_roundw
          case rel => exact ⟨BB.out, K1.out, K2.out, i + 1, HK.out, by go_num, Q.out⟩
          case measure => simp only [RowKit.intOf]; have := HK.out; omega
    · have ii : ¬ ((i : Int) < (N : Int)) := by omega
      have hno : Hid (R = false) := Lib.hid (by
        have h := NN.out
        rw [List.take_of_length_le (by rw [← HOKN.out.1]; omega)] at h
        rw [HR.out, h])
      clear hlt hi
      go_wp2
      go_ret
      exact ⟨by rw [hno.out] <;> rfl, BB.out⟩

end Go.Proofs.Ytkbahhnjoidhcaa
