/- The reference's Check of a transaction: the walk. -/
import Derived.Test.YtkbahhnjoidhcaaVe
namespace Go.Proofs.Ytkbahhnjoidhcaa
set_option linter.unusedVariables false
set_option linter.unusedSimpArgs false
open Go.RowKit

theorem inSet_next {l : List InD} {k : Nat} {y x : InD} (hy : l[k]? = some y) (h : inSet (l.take k) x = false) (hs : samePt y x = false) : inSet (l.take (k + 1)) x = false := by
  rw [List.take_add_one, hy, Option.toList]
  unfold inSet at *
  rw [List.any_append, h]
  simp [samePt_comm x y, hs]

theorem inSet_of {l : List InD} {k i : Nat} {y x : InD} (hy : l[k]? = some y) (hk : k < i) (hs : samePt y x = true) : inSet (l.take i) x = true := by
  unfold inSet
  rw [List.any_eq_true]
  refine ⟨y, ?_, by rw [samePt_comm]; exact hs⟩
  have : (l.take i)[k]? = some y := by rw [List.getElem?_take_of_lt hk]; exact hy
  exact List.mem_of_getElem? this

set_option maxRecDepth 100000 in
set_option maxHeartbeats 4000000 in
theorem rcheck_any (F : Nat → Prop) (w : World) (x : TxD) (u : Value × Value) (hi : Ins F w u.1 x.ins) (ho : Outs F w u.2 x.outs) (hwf : TxWf x) :
    Calls Try.prog 17 #[.agg (txC (x, u)).toArray] w fun e w' => e = .returned (.int .i64 (checkE x)) ∧ Below w.heap.size w w' := by
  obtain ⟨u1, u2⟩ := u
  change Calls _ _ #[.agg #[u1, u2, .int .u64 x.nonce]] _ _
  obtain ⟨a0, c0, he⟩ := hi.slice
  change u1 = _ at he
  subst he
  obtain ⟨a2, c2, he⟩ := ho.slice
  change u2 = _ at he
  subst he
  obtain ⟨N, hN⟩ : ∃ N, N = x.ins.length := ⟨_, rfl⟩
  obtain ⟨K, hK⟩ : ∃ K, K = x.outs.length := ⟨_, rfl⟩
  rw [← hN] at hi
  rw [← hK] at ho
  rw [← hN, ← hK]
  obtain ⟨us, hlu, hoku, hru, heu⟩ := hi
  rw [← hN] at hlu hru
  change RdF F w 34 (.slice a0 N c0) N _ at hru
  obtain ⟨hou, hrou⟩ := ho
  rw [← hK] at hrou
  change RdF F w 33 (.slice a2 K c2) K _ at hrou
  have bN' : (N : Int) ≤ 9223372036854775807 := rd_small' hru.1
  have bK' : (K : Int) ≤ 9223372036854775807 := rd_small' hrou.1
  have HI := Lib.hid (And.intro hru.1 hrou.1)
  have HE := Lib.hid heu
  have HL := Lib.hid (And.intro hN (And.intro hK hlu))
  have HOK := Lib.hid (And.intro hoku hou)
  have HW := Lib.hid hwf
  obtain ⟨R, hR⟩ : ∃ R, R = checkE x := ⟨_, rfl⟩
  rw [← hR]
  have HR := Lib.hid hR
  obtain ⟨i5, hi5, hz0, hz1, hz2⟩ := info_parts infoC_u64
  have HINF := Lib.hid (And.intro hi5 (And.intro hz0 (And.intro hz1 hz2)))
  clear hlu hoku hru heu hou hrou hN hK hwf hR hi5 hz0 hz1 hz2
  by_cases g1 : 1 ≤ N
  rotate_left
  · have i1 : (N : Int) < 1 := by omega
    have hno : Hid (R = 2) := Lib.hid (by rw [HR.out, checkE, if_neg (fun h => g1 (by rw [HL.out.1]; exact h.1.1))])
    clear g1
    go_enter Try.func17, Try.ntmps17
    go_wp2
    go_ret
    exact ⟨by rw [hno.out] <;> rfl, (Below.refl _ w).alloc (Nat.le_refl _) _⟩
  have i1 : ¬ ((N : Int) < 1) := by omega
  by_cases g2 : N ≤ 64
  rotate_left
  · have i2 : (64 : Int) < (N : Int) := by omega
    have hno : Hid (R = 2) := Lib.hid (by rw [HR.out, checkE, if_neg (fun h => g2 (by rw [HL.out.1]; exact h.1.2))])
    clear g1 g2
    go_enter Try.func17, Try.ntmps17
    go_wp2
    go_ret
    exact ⟨by rw [hno.out] <;> rfl, (Below.refl _ w).alloc (Nat.le_refl _) _⟩
  have i2 : ¬ ((64 : Int) < (N : Int)) := by omega
  by_cases g3 : 1 ≤ K
  rotate_left
  · have i3 : (K : Int) < 1 := by omega
    have hno : Hid (R = 2) := Lib.hid (by rw [HR.out, checkE, if_neg (fun h => g3 (by rw [HL.out.2.1]; exact h.2.1.1))])
    clear g1 g2 g3
    go_enter Try.func17, Try.ntmps17
    go_wp2
    go_ret
    exact ⟨by rw [hno.out] <;> rfl, (Below.refl _ w).alloc (Nat.le_refl _) _⟩
  have i3 : ¬ ((K : Int) < 1) := by omega
  by_cases g4 : K ≤ 64
  rotate_left
  · have i4 : (64 : Int) < (K : Int) := by omega
    have hno : Hid (R = 2) := Lib.hid (by rw [HR.out, checkE, if_neg (fun h => g4 (by rw [HL.out.2.1]; exact h.2.1.2))])
    clear g1 g2 g3 g4
    go_enter Try.func17, Try.ntmps17
    go_wp2
    go_ret
    exact ⟨by rw [hno.out] <;> rfl, (Below.refl _ w).alloc (Nat.le_refl _) _⟩
  have i4 : ¬ ((64 : Int) < (K : Int)) := by omega
  have HSH : Hid ((1 ≤ x.ins.length ∧ x.ins.length ≤ 64) ∧ (1 ≤ x.outs.length ∧ x.outs.length ≤ 64)) := Lib.hid ⟨by rw [← HL.out.1]; exact ⟨g1, g2⟩, by rw [← HL.out.2.1]; exact ⟨g3, g4⟩⟩
  clear g1 g2 g3 g4
  go_enter Try.func17, Try.ntmps17
  go_wp2_with (with_reducible refine stopAt 9 ?_)
  refine Stop.go ?_
  obtain ⟨w1, h1, k1, b1, s1⟩ := alloc_cb w 37 [.slice a0 N c0, .slice a2 K c2, .int .u64 x.nonce]
  change wpList _ _ _ _ _ (w.alloc (.cells [.slice a0 N c0, .slice a2 K c2, .int .u64 x.nonce].toArray 37))
  rw [← h1]
  have K1 : Hid (CB w1 37 w.heap.size [.slice a0 N c0, .slice a2 K c2, .int .u64 x.nonce]) := Lib.hid k1
  have BB := Lib.hid b1
  have hc0 := k1.cell 0 _ rfl
  have hc1 := k1.cell 1 _ rfl
  clear h1 k1 b1
  have HZL : Hid (∀ z ∈ x.ins.zip us, (inC z).length = 34) := Lib.hid (fun z hz => inC_length (HOK.out.1 _ (List.of_mem_zip hz).1))
  go_wp2
  clear hc0 hc1
  go_loopw [3] (fun v3 wr => Below w.heap.size w wr ∧ CB wr 37 w.heap.size [.slice a0 N c0, .slice a2 K c2, .int .u64 x.nonce] ∧ ∃ i : Nat, i ≤ N ∧ v3 = .int .i64 (i : Int) ∧ Short (x.ins.take i) ∧ Unlike (x.ins.take i))
    (fun v _ => N - (RowKit.intOf v).toNat)
  case atStart => exact ⟨BB.out, K1.out, 0, Nat.zero_le _, rfl, fun i hi => by simp at hi, List.Pairwise.nil⟩
  case round =>
    obtain ⟨hb, hk1, i, hi, rfl, hs, hu⟩ := hrel
    replace BB := Lib.hid hb
    replace K1 := Lib.hid hk1
    have HS := Lib.hid (And.intro hs hu)
    clear hb hk1 hs hu
    have hc0 := K1.out.cell 0 _ rfl
    by_cases hlt : i < N
    · obtain ⟨xi, hx⟩ : ∃ z, x.ins[i]? = some z := ⟨_, List.getElem?_eq_getElem (by rw [← HL.out.1]; exact hlt)⟩
      obtain ⟨ux, hux⟩ : ∃ z, us[i]? = some z := ⟨_, List.getElem?_eq_getElem (by rw [HL.out.2.2]; exact hlt)⟩
      obtain ⟨ad, c, he⟩ := rd_some HI.out.1 (by omega)
      simp only [Value.slice.injEq, true_and] at he
      obtain ⟨rfl, rfl⟩ := he
      have hz : (x.ins.zip us)[i]? = some (xi, ux) := by rw [List.getElem?_zip_eq_some]; exact ⟨hx, hux⟩
      obtain ⟨aw, cw, rfl⟩ := (HE.out i xi ux hx hux).1.slice
      have hok := HOK.out.1 xi (List.mem_of_getElem? hx)
      obtain ⟨m, hm⟩ : ∃ m, m = xi.wit.length := ⟨_, rfl⟩
      rw [← hm] at hz
      have HX := Lib.hid (And.intro hx (And.intro hok (And.intro hm hz)))
      have hcw := in_wit ((HI.out.1.fresh BB.out).at HZL.out hz) hok
      have ii : (i : Int) < (N : Int) := by omega
      have HK := Lib.hid hlt
      clear hx hux hz hok hm hlt hi
      by_cases h256 : m ≤ 256
      rotate_left
      · have i256 : (256 : Int) < (m : Int) := by omega
        have hno : Hid (R = 2) := Lib.hid (by rw [HR.out, checkE, if_neg (fun h => h256 (by rw [HX.out.2.2.1]; exact h.2.2.1 xi (List.mem_of_getElem? HX.out.1)))])
        clear h256
        go_wp2
        go_ret
        exact ⟨by rw [hno.out] <;> rfl, BB.out⟩
      have i256 : ¬ ((256 : Int) < (m : Int)) := by omega
      have H256 := Lib.hid h256
      clear h256
      go_wp2
      clear hc0 hcw i256
      go_loopw [4] (fun v4 wr => Below w.heap.size w wr ∧ CB wr 37 w.heap.size [.slice (some ad) N c0, .slice a2 K c2, .int .u64 x.nonce] ∧ ∃ k : Nat, k ≤ i ∧ v4 = .int .i64 (k : Int) ∧ inSet (x.ins.take k) xi = false)
        (fun v _ => i - (RowKit.intOf v).toNat)
      case atStart => exact ⟨BB.out, K1.out, 0, Nat.zero_le _, rfl, rfl⟩
      case round =>
        obtain ⟨hb, hk1, k, hk, rfl, hin⟩ := hrel
        replace BB := Lib.hid hb
        replace K1 := Lib.hid hk1
        have IN := Lib.hid hin
        clear hb hk1 hin
        have bi' : (i : Int) ≤ 9223372036854775807 := by have := HK.out; omega
        by_cases hlt : k < i
        · obtain ⟨yk, hy⟩ : ∃ z, x.ins[k]? = some z := ⟨_, List.getElem?_eq_getElem (by rw [← HL.out.1]; have := HK.out; omega)⟩
          obtain ⟨uy, huy⟩ : ∃ z, us[k]? = some z := ⟨_, List.getElem?_eq_getElem (by rw [HL.out.2.2]; have := HK.out; omega)⟩
          have hz : (x.ins.zip us)[k]? = some (yk, uy) := by rw [List.getElem?_zip_eq_some]; exact ⟨hy, huy⟩
          have HY := Lib.hid (And.intro hy (And.intro (HOK.out.1 yk (List.mem_of_getElem? hy)) hz))
          obtain ⟨S, hS0⟩ : ∃ S, S = samePt yk xi := ⟨_, rfl⟩
          have HSS := Lib.hid hS0
          have ik : (k : Int) < (i : Int) := by omega
          have ikN : (k : Int) < (N : Int) := by have := HK.out; omega
          have HK2 := Lib.hid hlt
          have hS : Hid (CB wr.drew 37 w.heap.size [.slice (some ad) N c0, .slice a2 K c2, .int .u64 x.nonce] ∧ Rd wr.drew 34 (.slice (some ad) N c0) N ((x.ins.zip us).flatMap inC)) := Lib.hid ⟨K1.out.drew, HI.out.1.fresh BB.out.drew⟩
          clear hy huy hz hS0 hlt hk
          go_wp2_with fail
          refine pl_start 13 rfl (fun w' => CB w' 37 w.heap.size [.slice (some ad) N c0, .slice a2 K c2, .int .u64 x.nonce] ∧ Rd w' 34 (.slice (some ad) N c0) N ((x.ins.zip us).flatMap inC)) (by kernel_rfl) ?_
          obtain ⟨wd, hwd⟩ : ∃ wd, wd = wr.drew := ⟨_, rfl⟩
          have BD := Lib.hid BB.out.drew
          have K1d := Lib.hid K1.out.drew
          rw [← hwd] at hS BD K1d ⊢
          clear hwd BB K1
          refine pl_take (i := 0) 51 rfl rfl rfl (by kernel_rfl) (by kernel_rfl) (by kernel_rfl) (by simp [Act.put]) hS.out ?_
          apply Exists.intro
          refine And.intro (fun w' hS' => ?_) ?_
          · go_wp2
            first
              | exact ⟨trivial, rfl⟩
              | exact rfl
          refine pl_take (i := 1) 52 rfl rfl rfl (by kernel_rfl) (by kernel_rfl) (by kernel_rfl) (by simp [Act.put]) hS.out ?_
          apply Exists.intro
          refine And.intro (fun w' hS' => ?_) ?_
          · have hc := hS'.1.cell 0 _ rfl
            clear hS'
            go_wp2
            first
              | exact ⟨trivial, rfl⟩
              | exact rfl
          refine pl_take (i := 2) 53 rfl rfl rfl (by kernel_rfl) (by kernel_rfl) (by kernel_rfl) (by simp [Act.put]) hS.out ?_
          apply Exists.intro
          refine And.intro (fun w' hS' => ?_) ?_
          · go_wp2
            first
              | exact ⟨trivial, rfl⟩
              | exact rfl
          refine pl_take (i := 3) 54 rfl rfl rfl (by kernel_rfl) (by kernel_rfl) (by kernel_rfl) (by simp [Act.put]) hS.out ?_
          apply Exists.intro
          refine And.intro (fun w' hS' => ?_) ?_
          · clear hS'
            go_wp2
            first
              | exact ⟨trivial, rfl⟩
              | exact rfl
          refine pl_take (i := 4) 55 rfl rfl rfl (by kernel_rfl) (by kernel_rfl) (by kernel_rfl) (by simp [Act.put]) hS.out ?_
          apply Exists.intro
          refine And.intro (fun w' hS' => ?_) ?_
          · go_wp2
            first
              | exact ⟨trivial, rfl⟩
              | exact rfl
          refine pl_take (i := 5) 56 rfl rfl rfl (by kernel_rfl) (by kernel_rfl) (by kernel_rfl) (by simp [Act.put]) hS.out ?_
          apply Exists.intro
          refine And.intro (fun w' hS' => ?_) ?_
          · refine wpList_load_agg rfl 41 (.tmp 55) rfl (ad.add (k * 34)) rfl (ptC yk) _ (in_pt (hS'.2.at HZL.out HY.out.2.2)) Try.underlying41 rfl (by rw [ptC_length HY.out.2.1]; exact infoPt) ?_
            clear hS'
            go_wp2
            exact ⟨trivial, rfl⟩
          refine pl_take (i := 6) 57 rfl rfl rfl (by kernel_rfl) (by kernel_rfl) (by kernel_rfl) (by simp [Act.put]) hS.out ?_
          apply Exists.intro
          refine And.intro (fun w' hS' => ?_) ?_
          · go_wp2
            first
              | exact ⟨trivial, rfl⟩
              | exact rfl
          refine pl_take (i := 7) 58 rfl rfl rfl (by kernel_rfl) (by kernel_rfl) (by kernel_rfl) (by simp [Act.put]) hS.out ?_
          apply Exists.intro
          refine And.intro (fun w' hS' => ?_) ?_
          · have hc := hS'.1.cell 0 _ rfl
            clear hS'
            go_wp2
            first
              | exact ⟨trivial, rfl⟩
              | exact rfl
          refine pl_take (i := 8) 59 rfl rfl rfl (by kernel_rfl) (by kernel_rfl) (by kernel_rfl) (by simp [Act.put]) hS.out ?_
          apply Exists.intro
          refine And.intro (fun w' hS' => ?_) ?_
          · go_wp2
            first
              | exact ⟨trivial, rfl⟩
              | exact rfl
          refine pl_take (i := 9) 60 rfl rfl rfl (by kernel_rfl) (by kernel_rfl) (by kernel_rfl) (by simp [Act.put]) hS.out ?_
          apply Exists.intro
          refine And.intro (fun w' hS' => ?_) ?_
          · clear hS'
            go_wp2
            first
              | exact ⟨trivial, rfl⟩
              | exact rfl
          refine pl_take (i := 10) 61 rfl rfl rfl (by kernel_rfl) (by kernel_rfl) (by kernel_rfl) (by simp [Act.put]) hS.out ?_
          apply Exists.intro
          refine And.intro (fun w' hS' => ?_) ?_
          · go_wp2
            first
              | exact ⟨trivial, rfl⟩
              | exact rfl
          refine pl_take (i := 11) 62 rfl rfl rfl (by kernel_rfl) (by kernel_rfl) (by kernel_rfl) (by simp [Act.put]) hS.out ?_
          apply Exists.intro
          refine And.intro (fun w' hS' => ?_) ?_
          · refine wpList_load_agg rfl 41 (.tmp 61) rfl (ad.add (i * 34)) rfl (ptC xi) _ (in_pt (hS'.2.at HZL.out HX.out.2.2.2)) Try.underlying41 rfl (by rw [ptC_length HX.out.2.1]; exact infoPt) ?_
            clear hS'
            go_wp2
            exact ⟨trivial, rfl⟩
          refine pl_take (i := 12) 63 rfl rfl rfl (by kernel_rfl) (by kernel_rfl) (by kernel_rfl) (by simp [Act.put]) hS.out ?_
          apply Exists.intro
          refine And.intro (fun w' hS' => ?_) ?_
          · refine wpList_bin rfl .eql 41 41 (.tmp 56) (.tmp 62) rfl (.bool S) (eqGuard_agg _ _ _ _ _ _ _ (by kernel_rfl)) ((pt_eq w' yk xi HY.out.2.1 HX.out.2.1).trans (by rw [HSS.out]; rfl)) ?_
            clear hS'
            go_wp2
            exact ⟨trivial, rfl⟩
          refine pl_done (by kernel_rfl) ?_
          cases S
          · have Q := Lib.hid (inSet_next HY.out.1 IN.out HSS.out.symm)
            go_wp2
            go_roundw
            case rel => exact ⟨BD.out, K1d.out, k + 1, HK2.out, by go_num, Q.out⟩
            case measure => simp only [RowKit.intOf]; have := HK2.out; omega
          · have hno : Hid (R = 2) := Lib.hid (by rw [HR.out, checkE, if_neg (fun h => unlike_not HX.out.1 (inSet_of HY.out.1 HK2.out HSS.out.symm) h.2.2.2)])
            go_wp2
            go_ret
            exact ⟨by rw [hno.out] <;> rfl, BD.out⟩
        · have ik : ¬ ((k : Int) < (i : Int)) := by omega
          have hki : k = i := by omega
          subst hki
          have Q := Lib.hid (And.intro (short_next HX.out.1 HS.out.1 (by rw [← HX.out.2.2.1]; exact H256.out)) (unlike_next HX.out.1 HS.out.2 IN.out))
          clear hlt hk
          go_wp2
          go_roundw
          case rel => exact ⟨BB.out, K1.out, k + 1, HK.out, by go_num, Q.out.1, Q.out.2⟩
          case measure => simp only [RowKit.intOf]; have := HK.out; omega
    · have ii : ¬ ((i : Int) < (N : Int)) := by omega
      have hiN : i = N := by omega
      have HOKS : Hid (okShape x) := Lib.hid (by
        have h := HS.out
        rw [List.take_of_length_le (by rw [← HL.out.1]; omega)] at h
        exact ⟨HSH.out.1, HSH.out.2, h.1, h.2⟩)
      clear hlt hi hiN HS
      go_wp2
      clear hc0
      go_loopw [5, 6] (fun v5 v6 wr => Below w.heap.size w wr ∧ CB wr 37 w.heap.size [.slice a0 N c0, .slice a2 K c2, .int .u64 x.nonce] ∧ ∃ (k : Nat) (a3 : Option Addr) (c3 : Nat), k ≤ K ∧ v6 = .int .i64 (k : Int) ∧ v5 = .slice a3 k c3 ∧ wr.ownsRow (w.heap.size + 1) 25 1 (.slice a3 k c3) k (ints ((amts x).take k)) ∧ ∀ o ∈ x.outs.take k, o.amt ≠ 0)
        (fun _ v _ => K - (RowKit.intOf v).toNat)
      case atStart => exact ⟨BB.out, K1.out, 0, none, 0, Nat.zero_le _, rfl, rfl, World.ownsRow_nil _ _ _ _, fun o h => by simp at h⟩
      case round =>
        obtain ⟨hb, hk1, k, a3, c3, hk, rfl, rfl, how, hnz⟩ := hrel
        replace BB := Lib.hid hb
        replace K1 := Lib.hid hk1
        have OW := Lib.hid how
        have NZ := Lib.hid hnz
        clear hb hk1 how hnz
        have hc1 := K1.out.cell 1 _ rfl
        by_cases hlt : k < K
        · obtain ⟨o, hx⟩ : ∃ z, x.outs[k]? = some z := ⟨_, List.getElem?_eq_getElem (by rw [← HL.out.2.1]; exact hlt)⟩
          obtain ⟨ad, c, he⟩ := rd_some HI.out.2 (by omega)
          simp only [Value.slice.injEq, true_and] at he
          obtain ⟨rfl, rfl⟩ := he
          have hca := ((HI.out.2.fresh BB.out).at (fun z hz => outC_length (HOK.out.2 z hz)) hx) 0 _ rfl
          rw [add_zero_addr] at hca
          have HX := Lib.hid hx
          have ik : (k : Int) < (K : Int) := by omega
          have HK := Lib.hid hlt
          have HKb : Hid (K ≤ 64) := Lib.hid (by rw [HL.out.2.1]; exact HOKS.out.2.1.2)
          clear hx hlt hk
          by_cases hz : o.amt = 0
          · have hno : Hid (R = 5) := Lib.hid (by rw [HR.out, checkE, if_pos HOKS.out, if_pos ⟨o, List.mem_of_getElem? HX.out, hz⟩])
            rw [hz] at hca
            clear hz
            go_wp2
            go_ret
            exact ⟨by rw [hno.out] <;> rfl, BB.out⟩
          · have hzb : (o.amt == 0) = false := by rw [beq_eq_false_iff_ne]; exact hz
            have HZ := Lib.hid hz
            obtain ⟨am, ham⟩ : ∃ am, am = o.amt := ⟨_, rfl⟩
            rw [← ham] at hca hzb
            have HAM := Lib.hid ham
            clear hz ham
            go_wp2_with (at_builtin; apply Stop.mk)
            refine Stop.go ?_
            clear hca hzb hc1
            obtain ⟨w7, h7, k7, b7, s7⟩ := alloc_cb wr 25 [.int .u64 am]
            change wpList _ _ _ _ _ (wr.alloc (.cells [.int .u64 am].toArray 25))
            rw [← h7]
            replace BB := Lib.hid (BB.out.tr b7)
            replace K1 := Lib.hid (K1.out.fresh b7)
            replace OW := Lib.hid (own_fresh OW.out b7)
            have L7 : Hid (w.heap.size + 1 ≤ w7.heap.size) := Lib.hid (by have := K1.out.lt; omega)
            obtain ⟨G7, hG7⟩ : ∃ g, g = wr.heap.size := ⟨_, rfl⟩
            rw [← hG7] at k7 ⊢
            have hrd : Hid (Rd w7 1 (.slice (some ⟨G7, 0, none⟩) 1 1) 1 [Value.int .u64 am]) := Lib.hid ⟨rfl, .inr ⟨_, _, rfl, Nat.le_refl _, by decide, (At.block k7).load⟩⟩
            clear h7 k7 b7 s7 hG7
            refine wpList_append_rd _ rfl (.tmp 78) (.tmp 85) 75 rfl (w.heap.size + 1) 25 i5 _ 1 8 Try.underlying75 HINF.out.1 HINF.out.2.1 HINF.out.2.2.1 HINF.out.2.2.2 rfl (by decide) (.slice a3 k c3) k _ rfl OW.out (.slice (some ⟨G7, 0, none⟩) 1 1) 1 _ rfl hrd.out (by intro u hu; simp at hu; subst hu; rfl) (by unfold maxLen; have := HK.out; have := HKb.out; omega) (by have := HK.out; have := HKb.out; omega) L7.out ?_
            intro v8 w8 o8 g8 _ _
            obtain ⟨a8, c8, rfl⟩ := (Rd.of_own o8).slice
            have hrow : ∀ b, (Value.slice a3 k c3).ownBlock = some b → w.heap.size + 1 ≤ b := fun b hb => (OW.out.lt b hb).1
            have Q1 := Lib.hid (BB.out.grown g8 BB.out.size (fun j hj => by have := hrow j hj; omega))
            have Q2 := Lib.hid (K1.out.grownT g8 (fun e => by have := hrow _ e; omega))
            have Q3 : Hid (w8.ownsRow (w.heap.size + 1) 25 1 (.slice a8 (k + 1) c8) (k + 1) (ints ((amts x).take (k + 1)))) := Lib.hid (by
              rw [amts_next HX.out, ← HAM.out]
              exact o8)
            have Q4 : Hid (∀ o ∈ x.outs.take (k + 1), o.amt ≠ 0) := Lib.hid (fun z hz => by
              rw [List.take_add_one, HX.out, Option.toList] at hz
              simp at hz
              rcases hz with hz | rfl
              · exact NZ.out z hz
              · exact HZ.out)
            clear o8 g8 hrow hrd
            go_wp2
            go_roundw
            case rel => exact ⟨Q1.out, Q2.out, k + 1, a8, c8, HK.out, by go_num, rfl, Q3.out, Q4.out⟩
            case measure => simp only [RowKit.intOf]; have := HK.out; omega
        · have ik : ¬ ((k : Int) < (K : Int)) := by omega
          have hkK : k = K := by omega
          have hla : (amts x).length = K := by unfold amts; rw [List.length_map, HL.out.2.1]
          have C9 := rmsum_any wr (.slice a3 k c3) (amts x) (by
            have h := Rd.of_own OW.out
            rw [List.take_of_length_le (by rw [hla]; omega)] at h
            rw [hla, ← hkK]
            exact h) (fun a ha => by
            obtain ⟨o, ho, rfl⟩ := List.mem_map.1 ha
            exact (HW.out.2.1 o ho).1)
          have hyes : Hid (R = msumE (amts x)) := Lib.hid (by
            rw [HR.out, checkE, if_pos HOKS.out, if_neg]
            rintro ⟨o, ho, hz⟩
            have h := NZ.out o
            rw [List.take_of_length_le (by rw [← HL.out.2.1]; omega)] at h
            exact h ho hz)
          obtain ⟨EN, hEN⟩ : ∃ n, n = msumN (amts x) := ⟨_, rfl⟩
          rw [← hyes.out, ← hEN] at C9
          replace C9 := Lib.hid C9
          clear hlt hk hkK hla hEN hyes
          go_wp2_with fail
          refine (C9.out).mono ?_
          rintro e w9 ⟨rfl, b9⟩
          have Q := Lib.hid (BB.out.tr b9)
          clear b9
          go_wp2
          go_ret
          exact ⟨rfl, Q.out⟩

end Go.Proofs.Ytkbahhnjoidhcaa
