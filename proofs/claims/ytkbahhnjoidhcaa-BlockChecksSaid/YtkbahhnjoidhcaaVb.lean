/- tx.Check's inner functions: how many inputs, outputs; witnesses, no outpoint twice: the walks. -/
import Derived.Test.YtkbahhnjoidhcaaVa
import Derived.Maps.Own
namespace Go.Proofs.Ytkbahhnjoidhcaa
set_option linter.unusedVariables false
set_option linter.unusedSimpArgs false
open Go.RowKit

def Unlike (l : List InD) : Prop := l.Pairwise (fun a b => samePt a b = false)
instance (l : List InD) : Decidable (Unlike l) := by unfold Unlike; infer_instance
def Short (l : List InD) : Prop := ∀ i ∈ l, i.wit.length ≤ 256
instance (l : List InD) : Decidable (Short l) := by unfold Short; infer_instance

theorem samePt_comm (x y : InD) : samePt x y = samePt y x := by
  simp only [samePt]
  congr 1
  rw [eq_comm (a := x.id), eq_comm (a := x.n)]

theorem unlike_next {l : List InD} {k : Nat} {x : InD} (hx : l[k]? = some x) (h : Unlike (l.take k)) (hn : inSet (l.take k) x = false) : Unlike (l.take (k + 1)) := by
  unfold Unlike at *
  rw [List.take_add_one, hx, Option.toList, List.pairwise_append]
  refine ⟨h, by simp, fun a ha b hb => ?_⟩
  simp at hb
  subst hb
  simp only [inSet, List.any_eq_false] at hn
  have := hn a ha
  rw [samePt_comm]
  simpa using this

theorem unlike_not {l : List InD} {k : Nat} {x : InD} (hx : l[k]? = some x) (hn : inSet (l.take k) x = true) : ¬ Unlike l := by
  intro h
  unfold Unlike at h
  have e : l = l.take k ++ x :: l.drop (k + 1) := by
    have hk := (List.getElem?_eq_some_iff.1 hx)
    obtain ⟨h1, h2⟩ := hk
    conv => lhs; rw [← List.take_append_drop k l]
    rw [List.drop_eq_getElem_cons h1, h2]
  rw [e, List.pairwise_append] at h
  simp only [inSet, List.any_eq_true] at hn
  obtain ⟨y, hy, hs⟩ := hn
  have := h.2.2 y hy x (by simp)
  rw [samePt_comm] at this
  rw [this] at hs
  cases hs

theorem short_next {l : List InD} {k : Nat} {x : InD} (hx : l[k]? = some x) (h : Short (l.take k)) (hn : x.wit.length ≤ 256) : Short (l.take (k + 1)) := by
  intro i hi
  rw [List.take_add_one, hx, Option.toList] at hi
  simp at hi
  rcases hi with hi | rfl
  · exact h i hi
  · exact hn

set_option maxRecDepth 100000 in
theorem chk1_any (w : World) (g : Nat) (x : TxD) (a : Option Addr) (c : Nat) (u2 : Value) (hc : CB w 37 g [.slice a x.ins.length c, u2, .int .u64 x.nonce]) :
    Calls Try.prog 46 #[.pointer (some ⟨g, 0, none⟩)] w fun e w' => e = .returned (.bool (decide (1 ≤ x.ins.length ∧ x.ins.length ≤ 64))) ∧ Below w.heap.size w w' := by
  obtain ⟨N, hN⟩ : ∃ N, N = x.ins.length := ⟨_, rfl⟩
  rw [← hN] at hc ⊢
  have hc0 := hc.cell 0 _ rfl
  clear hc hN
  by_cases h1 : 1 ≤ N
  · have i1 : (1 : Int) ≤ (N : Int) := by omega
    by_cases h2 : N ≤ 64
    · have i2 : (N : Int) ≤ 64 := by omega
      rw [decide_eq_true (⟨h1, h2⟩ : 1 ≤ N ∧ N ≤ 64)]
      clear h1 h2
      go_enter Try.func46, Try.ntmps46
      go_wp2
      go_ret
      exact ⟨rfl, by repeat (first | exact Below.refl _ _ | apply Below.drew)⟩
    · have i2 : ¬ (N : Int) ≤ 64 := by omega
      rw [decide_eq_false (show ¬ (1 ≤ N ∧ N ≤ 64) by omega)]
      clear h1 h2
      go_enter Try.func46, Try.ntmps46
      go_wp2
      go_ret
      exact ⟨rfl, by repeat (first | exact Below.refl _ _ | apply Below.drew)⟩
  · have i1 : ¬ (1 : Int) ≤ (N : Int) := by omega
    rw [decide_eq_false (show ¬ (1 ≤ N ∧ N ≤ 64) by omega)]
    clear h1
    go_enter Try.func46, Try.ntmps46
    go_wp2
    go_ret
    exact ⟨rfl, by repeat (first | exact Below.refl _ _ | apply Below.drew)⟩

set_option maxRecDepth 100000 in
theorem chk2_any (w : World) (g : Nat) (x : TxD) (a : Option Addr) (c : Nat) (u1 : Value) (hc : CB w 37 g [u1, .slice a x.outs.length c, .int .u64 x.nonce]) :
    Calls Try.prog 47 #[.pointer (some ⟨g, 0, none⟩)] w fun e w' => e = .returned (.bool (decide (1 ≤ x.outs.length ∧ x.outs.length ≤ 64))) ∧ Below w.heap.size w w' := by
  obtain ⟨N, hN⟩ : ∃ N, N = x.outs.length := ⟨_, rfl⟩
  rw [← hN] at hc ⊢
  have hc0 := hc.cell 1 _ rfl
  clear hc hN
  by_cases h1 : 1 ≤ N
  · have i1 : (1 : Int) ≤ (N : Int) := by omega
    by_cases h2 : N ≤ 64
    · have i2 : (N : Int) ≤ 64 := by omega
      rw [decide_eq_true (⟨h1, h2⟩ : 1 ≤ N ∧ N ≤ 64)]
      clear h1 h2
      go_enter Try.func47, Try.ntmps47
      go_wp2
      go_ret
      exact ⟨rfl, by repeat (first | exact Below.refl _ _ | apply Below.drew)⟩
    · have i2 : ¬ (N : Int) ≤ 64 := by omega
      rw [decide_eq_false (show ¬ (1 ≤ N ∧ N ≤ 64) by omega)]
      clear h1 h2
      go_enter Try.func47, Try.ntmps47
      go_wp2
      go_ret
      exact ⟨rfl, by repeat (first | exact Below.refl _ _ | apply Below.drew)⟩
  · have i1 : ¬ (1 : Int) ≤ (N : Int) := by omega
    rw [decide_eq_false (show ¬ (1 ≤ N ∧ N ≤ 64) by omega)]
    clear h1
    go_enter Try.func47, Try.ntmps47
    go_wp2
    go_ret
    exact ⟨rfl, by repeat (first | exact Below.refl _ _ | apply Below.drew)⟩

set_option maxRecDepth 100000 in
set_option maxHeartbeats 4000000 in
theorem chk3_any (F : Nat → Prop) (w : World) (g : Nat) (x : TxD) (v1 u2 : Value) (hc : CB w 37 g [v1, u2, .int .u64 x.nonce]) (hi : Ins F w v1 x.ins) :
    Calls Try.prog 48 #[.pointer (some ⟨g, 0, none⟩)] w fun e w' => e = .returned (.bool (decide (Short x.ins ∧ Unlike x.ins))) ∧ Below w.heap.size w w' := by
  obtain ⟨a0, c0, rfl⟩ := hi.slice
  obtain ⟨N, hN⟩ : ∃ N, N = x.ins.length := ⟨_, rfl⟩
  obtain ⟨us, hlu, hoku, hru, heu⟩ := hi
  rw [← hN] at hlu hru hc
  have bN' : (N : Int) ≤ 9223372036854775807 := rd_small' hru.1
  have HI := Lib.hid hru.1
  have HE := Lib.hid heu
  have HL := Lib.hid (And.intro hN (And.intro hlu hoku))
  obtain ⟨R, hR⟩ : ∃ R, R = decide (Short x.ins ∧ Unlike x.ins) := ⟨_, rfl⟩
  rw [← hR]
  have HR := Lib.hid hR
  have HC := Lib.hid hc
  have HRlt : Hid (g < w.heap.size) := Lib.hid hc.lt
  clear hN hlu hoku hru heu hR hc
  have hmm := @run_makeMap Try.prog
  go_enter Try.func48, Try.ntmps48
  go_wp2_with (with_reducible refine stopAt 6 ?_)
  refine Stop.go ?_
  clear hmm
  obtain ⟨w1, hw1⟩ : ∃ w1, w1 = w.alloc (.map #[] 0) := ⟨_, rfl⟩
  have hM := MapSet.new w
  have b1 : Below w.heap.size w w1 := by rw [hw1]; exact (Below.refl _ w).alloc (Nat.le_refl _) _
  rw [← hw1] at hM ⊢
  obtain ⟨M, hMM⟩ : ∃ M, M = w.heap.size := ⟨_, rfl⟩
  have HMM : Hid (M = w.heap.size) := Lib.hid hMM
  rw [← hMM] at hM ⊢
  have KM := Lib.hid hM
  have BB := Lib.hid b1
  have hc0 := (HC.out.fresh b1).cell 0 _ rfl
  clear hM b1 hw1 hMM
  go_wp2
  clear hc0
  go_loopw [4, 9] (fun v4 v9 wr => Below w.heap.size w wr ∧ ∃ k : Nat, k ≤ N ∧ v9 = .int .i64 (k : Int) ∧ MapSet wr M (x.ins.take k) ∧ Short (x.ins.take k) ∧ Unlike (x.ins.take k))
    (fun _ v _ => N - (RowKit.intOf v).toNat)
  case atStart => exact ⟨BB.out, 0, Nat.zero_le _, rfl, KM.out, fun i hi => by simp at hi, List.Pairwise.nil⟩
  case round =>
    obtain ⟨hb, k, hk, rfl, hm, hs, hu⟩ := hrel
    replace BB := Lib.hid hb
    replace KM := Lib.hid hm
    have HS := Lib.hid (And.intro hs hu)
    clear hb hm hs hu
    by_cases hlt : k < N
    · obtain ⟨xi, hx⟩ : ∃ z, x.ins[k]? = some z := ⟨_, List.getElem?_eq_getElem (by rw [← HL.out.1]; exact hlt)⟩
      obtain ⟨ux, hux⟩ : ∃ z, us[k]? = some z := ⟨_, List.getElem?_eq_getElem (by rw [HL.out.2.1]; exact hlt)⟩
      obtain ⟨ad, c, he⟩ := rd_some HI.out (by omega)
      simp only [Value.slice.injEq, true_and] at he
      obtain ⟨rfl, rfl⟩ := he
      have hz : (x.ins.zip us)[k]? = some (xi, ux) := by rw [List.getElem?_zip_eq_some]; exact ⟨hx, hux⟩
      obtain ⟨aw, cw, rfl⟩ := (HE.out k xi ux hx hux).1.slice
      have hok := HL.out.2.2 xi (List.mem_of_getElem? hx)
      obtain ⟨m, hm⟩ : ∃ m, m = xi.wit.length := ⟨_, rfl⟩
      rw [← hm] at hz
      have HX := Lib.hid (And.intro hx (And.intro hok hm))
      have HC2 := Lib.hid ((HI.out.fresh BB.out).at (fun z hz => inC_length (HL.out.2.2 _ (List.of_mem_zip hz).1)) hz)
      have ik : (k : Int) < (N : Int) := by omega
      have HK := Lib.hid hlt
      clear hx hux hz hok hm hlt hk
      go_wp2_with (with_reducible refine stopAt 12 ?_)
      refine Stop.go ?_
      refine wpList_load_agg rfl 44 (.tmp 11) rfl (ad.add (k * 34)) rfl (inC (xi, .slice aw m cw)) _ HC2.out Try.underlying44 rfl (by rw [inC_length HX.out.2.1]; exact infoIn) ?_
      go_wp2_with (with_reducible refine stopStore 44 ?_)
      refine Stop.go ?_
      refine wpList_store_var rfl 44 (.tmp 4) (.tmp 12) rfl wr.heap.size _ rfl _ (inC (xi, .slice aw m cw)) rfl (heap_alloc_new wr _) (by rw [inC_length HX.out.2.1]; rfl) (inC_one xi _ rfl) (by rw [inC_length HX.out.2.1]; exact infoIn) ?_
      intro w5 k5 o5
      have b5 : Below wr.heap.size wr w5 := Below.only ((Below.refl _ wr).alloc (Nat.le_refl _) _) o5 (Nat.le_refl _)
      obtain ⟨G5, hG5⟩ : ∃ g, g = wr.heap.size := ⟨_, rfl⟩
      have LM : Hid (M ≠ G5) := Lib.hid (by rw [hG5]; have := KM.out.lt; omega)
      rw [← hG5] at k5 ⊢
      replace BB := Lib.hid (BB.out.tr b5)
      replace KM := Lib.hid (KM.out.fresh b5)
      have K5 : Hid (CB w5 44 G5 (inC (xi, .slice aw m cw))) := Lib.hid k5
      clear k5 o5 b5 hG5 HC2
      have hcw := K5.out.cell 33 _ (inC_33 HX.out.2.1)
      by_cases h256 : m ≤ 256
      · have i256 : ¬ ((256 : Int) < (m : Int)) := by omega
        have H256 := Lib.hid h256
        clear h256
        go_wp2_with (with_reducible refine stopAt 20 ?_)
        refine Stop.go ?_
        clear hcw
        refine wpList_unguard' rfl ?_
        refine wpList_load_agg rfl 41 (.tmp 19) rfl ⟨G5, 0, none⟩ rfl (ptC xi) _ (At.load (At.pre (by have h := At.block K5.out; rw [inC_pt] at h; exact h))) Try.underlying41 rfl (by rw [ptC_length HX.out.2.1]; exact infoPt) ?_
        go_wp2_with (with_reducible refine stopAt 21 ?_)
        refine Stop.go ?_
        refine wpList_unguard' rfl ?_
        refine wpList_lookup_set rfl (.tmp 18) (.tmp 20) rfl M _ xi rfl rfl KM.out HX.out.2.1 ?_
        have hfd := run_field_set
        cases hB : inSet (x.ins.take k) xi with
        | true =>
          have hno : Hid (R = false) := Lib.hid (by rw [HR.out, decide_eq_false (fun h => unlike_not HX.out.1 hB h.2)])
          clear hB
          go_wp2
          go_ret
          exact ⟨by rw [hno.out] <;> rfl, BB.out⟩
        | false =>
          have HB := Lib.hid hB
          clear hB
          go_wp2_with (with_reducible refine stopAt 26 ?_)
          refine Stop.go ?_
          clear hfd
          refine wpList_load_agg rfl 41 (.tmp 25) rfl ⟨G5, 0, none⟩ rfl (ptC xi) _ (At.load (At.pre (by have h := At.block K5.out; rw [inC_pt] at h; exact h))) Try.underlying41 rfl (by rw [ptC_length HX.out.2.1]; exact infoPt) ?_
          go_wp2_with (at_mapUpdate; apply Stop.mk)
          refine Stop.go ?_
          refine wpList_update_set rfl (.tmp 24) (.tmp 26) (.tmp 27) rfl M _ xi rfl rfl rfl KM.out HX.out.2.1 ?_
          intro w6 m6 o6
          rw [if_neg (by rw [HB.out]; simp)] at m6
          have Q1 : Hid (Below w.heap.size w w6) := Lib.hid (Below.only BB.out o6 (by rw [HMM.out]; exact Nat.le_refl _))
          have Q2 : Hid (MapSet w6 M (x.ins.take (k + 1))) := Lib.hid (by rw [List.take_add_one, HX.out.1]; exact m6)
          have Q3 := Lib.hid (And.intro (short_next HX.out.1 HS.out.1 (by rw [← HX.out.2.2]; exact H256.out)) (unlike_next HX.out.1 HS.out.2 HB.out))
          clear m6 o6
          go_wp2
          go_roundw
          case rel => exact ⟨Q1.out, k + 1, HK.out, by go_num, Q2.out, Q3.out.1, Q3.out.2⟩
          case measure => simp only [RowKit.intOf]; have := HK.out; omega
      · have i256 : (256 : Int) < (m : Int) := by omega
        have hno : Hid (R = false) := Lib.hid (by rw [HR.out, decide_eq_false (fun h => h256 (by rw [HX.out.2.2]; exact h.1 xi (List.mem_of_getElem? HX.out.1)))])
        clear h256
        go_wp2
        go_ret
        exact ⟨by rw [hno.out] <;> rfl, BB.out⟩
    · have ik : ¬ ((k : Int) < (N : Int)) := by omega
      have hkN : k = N := by omega
      have hyes : Hid (R = true) := Lib.hid (by
        rw [HR.out, decide_eq_true]
        have h1 := HS.out
        rw [List.take_of_length_le (by rw [← HL.out.1]; omega)] at h1
        exact h1)
      clear hlt hk hkN
      go_wp2
      go_ret
      exact ⟨by rw [hyes.out] <;> rfl, BB.out⟩

end Go.Proofs.Ytkbahhnjoidhcaa
