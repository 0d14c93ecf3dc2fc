/- The reference's Same of transactions: the walk. -/
import Derived.Test.YtkbahhnjoidhcaaXg
import Derived.Test.YtkbahhnjoidhcaaG4
namespace Go.Proofs.Ytkbahhnjoidhcaa
set_option linter.unusedVariables false
set_option linter.unusedSimpArgs false
open Go.RowKit

theorem rd_small {w : World} {a : Option Addr} {s n c : Nat} {cs : List Value} (h : Rd w s (.slice a n c) n cs) : (n : Int) ≤ 9223372036854775807 := by
  have h1 : n ≤ maxLen := by
    rcases h.2 with ⟨he, _⟩ | ⟨ad, c', he, h2, h3, _⟩
    · simp only [Value.slice.injEq] at he
      omega
    · simp only [Value.slice.injEq] at he
      omega
  unfold maxLen at h1
  omega

set_option maxRecDepth 100000 in
set_option maxHeartbeats 4000000 in
theorem rsame_any (F G : Nat → Prop) (w : World) (x y : TxD) (u v : Value × Value) (hu : Ins F w u.1 x.ins ∧ Outs F w u.2 x.outs) (hv : Ins G w v.1 y.ins ∧ Outs G w v.2 y.outs) :
    Calls Try.prog 25 #[.agg (txC (x, u)).toArray, .agg (txC (y, v)).toArray] w fun e w' => e = .returned (.bool (decide (x = y))) ∧ Below w.heap.size w w' := by
  obtain ⟨R, hR⟩ : ∃ R, R = decide (x = y) := ⟨_, rfl⟩
  rw [← hR]
  rw [tx_split] at hR
  obtain ⟨u1, u2⟩ := u
  obtain ⟨v1, v2⟩ := v
  change Calls _ _ #[.agg #[u1, u2, .int .u64 x.nonce], .agg #[v1, v2, .int .u64 y.nonce]] _ _
  obtain ⟨a0, c0, he⟩ := hu.1.slice
  change u1 = _ at he
  subst he
  obtain ⟨a1, c1, he⟩ := hv.1.slice
  change v1 = _ at he
  subst he
  obtain ⟨a2, c2, he⟩ := hu.2.slice
  change u2 = _ at he
  subst he
  obtain ⟨a3, c3, he⟩ := hv.2.slice
  change v2 = _ at he
  subst he
  obtain ⟨N, hN⟩ : ∃ N, N = x.ins.length := ⟨_, rfl⟩
  obtain ⟨M, hM⟩ : ∃ M, M = y.ins.length := ⟨_, rfl⟩
  obtain ⟨K, hK⟩ : ∃ K, K = x.outs.length := ⟨_, rfl⟩
  obtain ⟨L, hL⟩ : ∃ L, L = y.outs.length := ⟨_, rfl⟩
  rw [← hN, ← hK] at hu
  rw [← hM, ← hL] at hv
  rw [← hN, ← hK, ← hM, ← hL]
  have HR := Lib.hid hR
  have HNK := Lib.hid (And.intro hN (And.intro hM (And.intro hK hL)))
  have hfN : ¬ (N = M) → R = false := fun h => by
    rw [HR.out]
    have : decide (x.ins = y.ins) = false := decide_eq_false (fun e => h (by rw [hN, hM, e]))
    rw [this, Bool.and_false, Bool.and_false]
  have hfK : ¬ (K = L) → R = false := fun h => by
    rw [HR.out]
    have : decide (x.outs = y.outs) = false := decide_eq_false (fun e => h (by rw [hK, hL, e]))
    rw [this, Bool.false_and, Bool.and_false]
  clear hR
  cases hn : (x.nonce == y.nonce)
  · have hf : Hid (R = false) := Lib.hid (by rw [HR.out, hn]; rfl)
    have hn' : (x.nonce != y.nonce) = true := by rw [bne, hn]; rfl
    clear hu hv hfN hfK hN hM hK hL
    go_enter Try.func25, Try.ntmps25
    go_wp2_with (with_reducible refine stopAt 8 ?_)
    refine Stop.go ?_
    obtain ⟨w1, h1, k1, b1, s1⟩ := alloc_cb w 37 [.slice a0 N c0, .slice a2 K c2, .int .u64 x.nonce]
    obtain ⟨w2, h2, k2, b2, s2⟩ := alloc_cb w1 37 [.slice a1 M c1, .slice a3 L c3, .int .u64 y.nonce]
    change wpList _ _ _ _ _ ((w.alloc (.cells [.slice a0 N c0, .slice a2 K c2, .int .u64 x.nonce].toArray 37)).alloc (.cells [.slice a1 _ c1, .slice a3 _ c3, .int .u64 y.nonce].toArray 37))
    rw [← h1, ← h2]
    rw [s1] at s2 k2
    have BB := Lib.hid (b1.tr b2)
    have KK := Lib.hid (And.intro (k1.fresh b2) k2)
    have hc10 := (k1.fresh b2).cell 0 _ rfl
    have hc11 := (k1.fresh b2).cell 1 _ rfl
    have hc12 := (k1.fresh b2).cell 2 _ rfl
    have hc20 := k2.cell 0 _ rfl
    have hc21 := k2.cell 1 _ rfl
    have hc22 := k2.cell 2 _ rfl
    clear h1 h2 k1 k2 b1 b2 s1 s2
    go_wp2
    go_ret
    exact ⟨by rw [hf.out]; rfl, BB.out⟩
  have hn' : (x.nonce != y.nonce) = false := by rw [bne, hn]; rfl
  by_cases hNM : ¬ (N = M)
  · have hf : Hid (R = false) := Lib.hid (hfN hNM)
    have i1 : ¬ ((N : Int) = (M : Int)) := by omega
    clear hu hv hfN hfK hN hM hK hL hNM
    go_enter Try.func25, Try.ntmps25
    go_wp2_with (with_reducible refine stopAt 8 ?_)
    refine Stop.go ?_
    obtain ⟨w1, h1, k1, b1, s1⟩ := alloc_cb w 37 [.slice a0 N c0, .slice a2 K c2, .int .u64 x.nonce]
    obtain ⟨w2, h2, k2, b2, s2⟩ := alloc_cb w1 37 [.slice a1 M c1, .slice a3 L c3, .int .u64 y.nonce]
    change wpList _ _ _ _ _ ((w.alloc (.cells [.slice a0 N c0, .slice a2 K c2, .int .u64 x.nonce].toArray 37)).alloc (.cells [.slice a1 _ c1, .slice a3 _ c3, .int .u64 y.nonce].toArray 37))
    rw [← h1, ← h2]
    rw [s1] at s2 k2
    have BB := Lib.hid (b1.tr b2)
    have KK := Lib.hid (And.intro (k1.fresh b2) k2)
    have hc10 := (k1.fresh b2).cell 0 _ rfl
    have hc11 := (k1.fresh b2).cell 1 _ rfl
    have hc12 := (k1.fresh b2).cell 2 _ rfl
    have hc20 := k2.cell 0 _ rfl
    have hc21 := k2.cell 1 _ rfl
    have hc22 := k2.cell 2 _ rfl
    clear h1 h2 k1 k2 b1 b2 s1 s2
    go_wp2
    go_ret
    exact ⟨by rw [hf.out]; rfl, BB.out⟩
  replace hNM : N = M := Decidable.not_not.1 hNM
  by_cases hKL : ¬ (K = L)
  · have hf : Hid (R = false) := Lib.hid (hfK hKL)
    have i1 : ¬ ((K : Int) = (L : Int)) := by omega
    clear hfN hfK hN hM hK hL hKL
    subst hNM
    clear hu hv
    go_enter Try.func25, Try.ntmps25
    go_wp2_with (with_reducible refine stopAt 8 ?_)
    refine Stop.go ?_
    obtain ⟨w1, h1, k1, b1, s1⟩ := alloc_cb w 37 [.slice a0 N c0, .slice a2 K c2, .int .u64 x.nonce]
    obtain ⟨w2, h2, k2, b2, s2⟩ := alloc_cb w1 37 [.slice a1 N c1, .slice a3 L c3, .int .u64 y.nonce]
    change wpList _ _ _ _ _ ((w.alloc (.cells [.slice a0 N c0, .slice a2 K c2, .int .u64 x.nonce].toArray 37)).alloc (.cells [.slice a1 _ c1, .slice a3 _ c3, .int .u64 y.nonce].toArray 37))
    rw [← h1, ← h2]
    rw [s1] at s2 k2
    have BB := Lib.hid (b1.tr b2)
    have KK := Lib.hid (And.intro (k1.fresh b2) k2)
    have hc10 := (k1.fresh b2).cell 0 _ rfl
    have hc11 := (k1.fresh b2).cell 1 _ rfl
    have hc12 := (k1.fresh b2).cell 2 _ rfl
    have hc20 := k2.cell 0 _ rfl
    have hc21 := k2.cell 1 _ rfl
    have hc22 := k2.cell 2 _ rfl
    clear h1 h2 k1 k2 b1 b2 s1 s2
    go_wp2
    go_ret
    exact ⟨by rw [hf.out]; rfl, BB.out⟩
  replace hKL : K = L := Decidable.not_not.1 hKL
  have hf : Hid (R = (decide (x.outs = y.outs) && decide (x.ins = y.ins))) := Lib.hid (by rw [HR.out, hn]; rfl)
  have HP : Hid (N = x.ins.length ∧ N = y.ins.length ∧ K = x.outs.length ∧ K = y.outs.length) := Lib.hid ⟨hN, hNM.trans hM, hK, hKL.trans hL⟩
  obtain ⟨⟨us, hlu, hoku, hru, heu⟩, hou, hrou⟩ := hu
  obtain ⟨⟨vs, hlv, hokv, hrv, hev⟩, hov, hrov⟩ := hv
  rw [← hN] at hlu hru
  rw [← hM] at hlv hrv
  rw [← hK] at hrou
  rw [← hL] at hrov
  subst hNM
  subst hKL
  change RdF F w 34 (.slice a0 N c0) N _ at hru
  change RdF G w 34 (.slice a1 N c1) N _ at hrv
  change RdF F w 33 (.slice a2 K c2) K _ at hrou
  change RdF G w 33 (.slice a3 K c3) K _ at hrov
  have bN' : (N : Int) ≤ 9223372036854775807 := rd_small hru.1
  have bK' : (K : Int) ≤ 9223372036854775807 := rd_small hrou.1
  have HI := Lib.hid (And.intro hru.1 (And.intro hrv.1 (And.intro hrou.1 hrov.1)))
  have HE := Lib.hid (And.intro heu hev)
  have HLs := Lib.hid (And.intro hlu hlv)
  have HOK : Hid ((∀ z ∈ x.ins.zip us, (inC z).length = 34) ∧ ∀ z ∈ y.ins.zip vs, (inC z).length = 34) := Lib.hid ⟨fun z hz => inC_length (hoku _ (List.of_mem_zip hz).1), fun z hz => inC_length (hokv _ (List.of_mem_zip hz).1)⟩
  have HO := Lib.hid (And.intro hoku (And.intro hokv (And.intro hou hov)))
  clear hN hM hK hL hfN hfK hlu hlv hoku hokv hru hrv heu hev hou hov hrou hrov HNK
  go_enter Try.func25, Try.ntmps25
  go_wp2_with (with_reducible refine stopAt 8 ?_)
  refine Stop.go ?_
  obtain ⟨w1, h1, k1, b1, s1⟩ := alloc_cb w 37 [.slice a0 N c0, .slice a2 K c2, .int .u64 x.nonce]
  obtain ⟨w2, h2, k2, b2, s2⟩ := alloc_cb w1 37 [.slice a1 N c1, .slice a3 K c3, .int .u64 y.nonce]
  change wpList _ _ _ _ _ ((w.alloc (.cells [.slice a0 N c0, .slice a2 K c2, .int .u64 x.nonce].toArray 37)).alloc (.cells [.slice a1 _ c1, .slice a3 _ c3, .int .u64 y.nonce].toArray 37))
  rw [← h1, ← h2]
  rw [s1] at s2 k2
  have BB := Lib.hid (b1.tr b2)
  have KK := Lib.hid (And.intro (k1.fresh b2) k2)
  have hc10 := (k1.fresh b2).cell 0 _ rfl
  have hc11 := (k1.fresh b2).cell 1 _ rfl
  have hc12 := (k1.fresh b2).cell 2 _ rfl
  have hc20 := k2.cell 0 _ rfl
  have hc21 := k2.cell 1 _ rfl
  have hc22 := k2.cell 2 _ rfl
  clear h1 h2 k1 k2 b1 b2 s1 s2
  go_wp2
  clear hc10 hc11 hc12 hc20 hc21 hc22 hn hn'
  go_loopw [5] (fun v5 wr => Below w2.heap.size w2 wr ∧ ∃ k : Nat, k ≤ N ∧ v5 = .int .i64 (k : Int) ∧ x.ins.take k = y.ins.take k)
    (fun v _ => N - (RowKit.intOf v).toNat)
  case atStart => exact ⟨Below.refl _ _, 0, by omega, rfl, rfl⟩
  case round =>
    obtain ⟨hb, k, hk, rfl, ht⟩ := hrel
    have HB := Lib.hid hb
    have HT := Lib.hid ht
    have hc10 := (KK.out.1.fresh hb).cell 0 _ rfl
    clear hb ht
    by_cases hlt : k < N
    · obtain ⟨xi, hx⟩ : ∃ z, x.ins[k]? = some z := ⟨_, List.getElem?_eq_getElem (by rw [← HP.out.1]; exact hlt)⟩
      obtain ⟨yi, hy⟩ : ∃ z, y.ins[k]? = some z := ⟨_, List.getElem?_eq_getElem (by rw [← HP.out.2.1]; exact hlt)⟩
      obtain ⟨ux, hux⟩ : ∃ z, us[k]? = some z := ⟨_, List.getElem?_eq_getElem (by rw [HLs.out.1]; exact hlt)⟩
      obtain ⟨uy, huy⟩ : ∃ z, vs[k]? = some z := ⟨_, List.getElem?_eq_getElem (by rw [HLs.out.2]; exact hlt)⟩
      obtain ⟨ad, c, he⟩ := rd_some HI.out.1 (by omega)
      simp only [Value.slice.injEq, true_and] at he
      obtain ⟨rfl, rfl⟩ := he
      obtain ⟨bd, d, he⟩ := rd_some HI.out.2.1 (by omega)
      simp only [Value.slice.injEq, true_and] at he
      obtain ⟨rfl, rfl⟩ := he
      have HZ : Hid ((x.ins.zip us)[k]? = some (xi, ux) ∧ (y.ins.zip vs)[k]? = some (yi, uy)) := Lib.hid ⟨by rw [List.getElem?_zip_eq_some]; exact ⟨hx, hux⟩, by rw [List.getElem?_zip_eq_some]; exact ⟨hy, huy⟩⟩
      have HXY := Lib.hid (And.intro hx (And.intro hy (And.intro (HO.out.1 _ (List.mem_of_getElem? hx)) (HO.out.2.1 _ (List.mem_of_getElem? hy)))))
      have b2r : Below w.heap.size w wr.drew := (BB.out.tr HB.out).drew
      have hS : Hid (CB wr.drew 37 w.heap.size [.slice (some ad) N c0, .slice a2 K c2, .int .u64 x.nonce] ∧ CB wr.drew 37 (w.heap.size + 1) [.slice (some bd) N c1, .slice a3 K c3, .int .u64 y.nonce] ∧ Rd wr.drew 34 (.slice (some ad) N c0) N ((x.ins.zip us).flatMap inC) ∧ Rd wr.drew 34 (.slice (some bd) N c1) N ((y.ins.zip vs).flatMap inC) ∧ Rd wr.drew 1 ux xi.wit.length (bvs xi.wit) ∧ Rd wr.drew 1 uy yi.wit.length (bvs yi.wit)) := Lib.hid ⟨KK.out.1.fresh HB.out.drew, KK.out.2.fresh HB.out.drew, HI.out.1.fresh b2r, HI.out.2.1.fresh b2r, (HE.out.1 k xi ux hx hux).1.fresh b2r, (HE.out.2 k yi uy hy huy).1.fresh b2r⟩
      have ik : (k : Int) < (N : Int) := by omega
      have HK := Lib.hid hlt
      clear hx hy hux huy hlt hk b2r
      cases hpt : decide (xi.id = yi.id ∧ xi.n = yi.n)
      · have QP := Lib.hid hpt
        clear hpt
        go_wp2_with fail
        refine pl_start 30 rfl (fun w' => CB w' 37 w.heap.size [.slice (some ad) N c0, .slice a2 K c2, .int .u64 x.nonce] ∧ CB w' 37 (w.heap.size + 1) [.slice (some bd) N c1, .slice a3 K c3, .int .u64 y.nonce] ∧ Rd w' 34 (.slice (some ad) N c0) N ((x.ins.zip us).flatMap inC) ∧ Rd w' 34 (.slice (some bd) N c1) N ((y.ins.zip vs).flatMap inC) ∧ Rd w' 1 ux xi.wit.length (bvs xi.wit) ∧ Rd w' 1 uy yi.wit.length (bvs yi.wit)) (by kernel_rfl) ?_
        refine pl_take (i := 0) 37 rfl rfl rfl (by kernel_rfl) (by kernel_rfl) (by kernel_rfl) (by simp [Act.put]) hS.out ?_
        apply Exists.intro
        refine And.intro (fun w' hS' => ?_) ?_
        · go_wp2
          first
            | exact ⟨trivial, rfl⟩
            | exact rfl
        refine pl_take (i := 1) 38 rfl rfl rfl (by kernel_rfl) (by kernel_rfl) (by kernel_rfl) (by simp [Act.put]) hS.out ?_
        apply Exists.intro
        refine And.intro (fun w' hS' => ?_) ?_
        · have hc := hS'.1.cell 0 _ rfl
          clear hS'
          go_wp2
          first
            | exact ⟨trivial, rfl⟩
            | exact rfl
        refine pl_take (i := 2) 39 rfl rfl rfl (by kernel_rfl) (by kernel_rfl) (by kernel_rfl) (by simp [Act.put]) hS.out ?_
        apply Exists.intro
        refine And.intro (fun w' hS' => ?_) ?_
        · go_wp2
          first
            | exact ⟨trivial, rfl⟩
            | exact rfl
        refine pl_take (i := 3) 40 rfl rfl rfl (by kernel_rfl) (by kernel_rfl) (by kernel_rfl) (by simp [Act.put]) hS.out ?_
        apply Exists.intro
        refine And.intro (fun w' hS' => ?_) ?_
        · clear hS'
          go_wp2
          first
            | exact ⟨trivial, rfl⟩
            | exact rfl
        refine pl_take (i := 4) 41 rfl rfl rfl (by kernel_rfl) (by kernel_rfl) (by kernel_rfl) (by simp [Act.put]) hS.out ?_
        apply Exists.intro
        refine And.intro (fun w' hS' => ?_) ?_
        · go_wp2
          first
            | exact ⟨trivial, rfl⟩
            | exact rfl
        refine pl_take (i := 5) 42 rfl rfl rfl (by kernel_rfl) (by kernel_rfl) (by kernel_rfl) (by simp [Act.put]) hS.out ?_
        apply Exists.intro
        refine And.intro (fun w' hS' => ?_) ?_
        · refine wpList_load_agg rfl 41 (.tmp 41) rfl (ad.add (k * 34)) rfl (ptC xi) _ (in_pt (hS'.2.2.1.at HOK.out.1 HZ.out.1)) Try.underlying41 rfl (by rw [ptC_length HXY.out.2.2.1]; exact infoPt) ?_
          clear hS'
          go_wp2
          exact ⟨trivial, rfl⟩
        refine pl_take (i := 6) 43 rfl rfl rfl (by kernel_rfl) (by kernel_rfl) (by kernel_rfl) (by simp [Act.put]) hS.out ?_
        apply Exists.intro
        refine And.intro (fun w' hS' => ?_) ?_
        · go_wp2
          first
            | exact ⟨trivial, rfl⟩
            | exact rfl
        refine pl_take (i := 7) 44 rfl rfl rfl (by kernel_rfl) (by kernel_rfl) (by kernel_rfl) (by simp [Act.put]) hS.out ?_
        apply Exists.intro
        refine And.intro (fun w' hS' => ?_) ?_
        · have hc := hS'.2.1.cell 0 _ rfl
          clear hS'
          go_wp2
          first
            | exact ⟨trivial, rfl⟩
            | exact rfl
        refine pl_take (i := 8) 45 rfl rfl rfl (by kernel_rfl) (by kernel_rfl) (by kernel_rfl) (by simp [Act.put]) hS.out ?_
        apply Exists.intro
        refine And.intro (fun w' hS' => ?_) ?_
        · go_wp2
          first
            | exact ⟨trivial, rfl⟩
            | exact rfl
        refine pl_take (i := 9) 46 rfl rfl rfl (by kernel_rfl) (by kernel_rfl) (by kernel_rfl) (by simp [Act.put]) hS.out ?_
        apply Exists.intro
        refine And.intro (fun w' hS' => ?_) ?_
        · clear hS'
          go_wp2
          first
            | exact ⟨trivial, rfl⟩
            | exact rfl
        refine pl_take (i := 10) 47 rfl rfl rfl (by kernel_rfl) (by kernel_rfl) (by kernel_rfl) (by simp [Act.put]) hS.out ?_
        apply Exists.intro
        refine And.intro (fun w' hS' => ?_) ?_
        · go_wp2
          first
            | exact ⟨trivial, rfl⟩
            | exact rfl
        refine pl_take (i := 11) 48 rfl rfl rfl (by kernel_rfl) (by kernel_rfl) (by kernel_rfl) (by simp [Act.put]) hS.out ?_
        apply Exists.intro
        refine And.intro (fun w' hS' => ?_) ?_
        · refine wpList_load_agg rfl 41 (.tmp 47) rfl (bd.add (k * 34)) rfl (ptC yi) _ (in_pt (hS'.2.2.2.1.at HOK.out.2 HZ.out.2)) Try.underlying41 rfl (by rw [ptC_length HXY.out.2.2.2]; exact infoPt) ?_
          clear hS'
          go_wp2
          exact ⟨trivial, rfl⟩
        refine pl_take (i := 12) 49 rfl rfl rfl (by kernel_rfl) (by kernel_rfl) (by kernel_rfl) (by simp [Act.put]) hS.out ?_
        apply Exists.intro
        refine And.intro (fun w' hS' => ?_) ?_
        · refine wpList_bin rfl .neq 41 41 (.tmp 42) (.tmp 48) rfl (.bool true) (eqGuard_agg _ _ _ _ _ _ _ (by kernel_rfl)) ((pt_ne w' xi yi HXY.out.2.2.1 HXY.out.2.2.2).trans (by rw [QP.out]; rfl)) ?_
          clear hS'
          go_wp2
          exact ⟨trivial, rfl⟩
        refine pl_take (i := 13) 50 rfl rfl rfl (by kernel_rfl) (by kernel_rfl) (by kernel_rfl) (by simp [Act.put]) hS.out ?_
        apply Exists.intro
        refine And.intro (fun w' hS' => ?_) ?_
        · go_wp2
          first
            | exact ⟨trivial, rfl⟩
            | exact rfl
        refine pl_skip (i := 14) rfl (by kernel_rfl) (by kernel_rfl) (by kernel_rfl) (by kernel_rfl) hS.out ?_
        apply Exists.intro
        refine And.intro (by simp [Act.put, go_sem]; rfl) ?_
        refine pl_skip (i := 15) rfl (by kernel_rfl) (by kernel_rfl) (by kernel_rfl) (by kernel_rfl) hS.out ?_
        apply Exists.intro
        refine And.intro (by simp [Act.put, go_sem]; rfl) ?_
        refine pl_skip (i := 16) rfl (by kernel_rfl) (by kernel_rfl) (by kernel_rfl) (by kernel_rfl) hS.out ?_
        apply Exists.intro
        refine And.intro (by simp [Act.put, go_sem]; rfl) ?_
        refine pl_skip (i := 17) rfl (by kernel_rfl) (by kernel_rfl) (by kernel_rfl) (by kernel_rfl) hS.out ?_
        apply Exists.intro
        refine And.intro (by simp [Act.put, go_sem]; rfl) ?_
        refine pl_skip (i := 18) rfl (by kernel_rfl) (by kernel_rfl) (by kernel_rfl) (by kernel_rfl) hS.out ?_
        apply Exists.intro
        refine And.intro (by simp [Act.put, go_sem]; rfl) ?_
        refine pl_skip (i := 19) rfl (by kernel_rfl) (by kernel_rfl) (by kernel_rfl) (by kernel_rfl) hS.out ?_
        apply Exists.intro
        refine And.intro (by simp [Act.put, go_sem]; rfl) ?_
        refine pl_skip (i := 20) rfl (by kernel_rfl) (by kernel_rfl) (by kernel_rfl) (by kernel_rfl) hS.out ?_
        apply Exists.intro
        refine And.intro (by simp [Act.put, go_sem]; rfl) ?_
        refine pl_skip (i := 21) rfl (by kernel_rfl) (by kernel_rfl) (by kernel_rfl) (by kernel_rfl) hS.out ?_
        apply Exists.intro
        refine And.intro (by simp [Act.put, go_sem]; rfl) ?_
        refine pl_skip (i := 22) rfl (by kernel_rfl) (by kernel_rfl) (by kernel_rfl) (by kernel_rfl) hS.out ?_
        apply Exists.intro
        refine And.intro (by simp [Act.put, go_sem]; rfl) ?_
        refine pl_skip (i := 23) rfl (by kernel_rfl) (by kernel_rfl) (by kernel_rfl) (by kernel_rfl) hS.out ?_
        apply Exists.intro
        refine And.intro (by simp [Act.put, go_sem]; rfl) ?_
        refine pl_skip (i := 24) rfl (by kernel_rfl) (by kernel_rfl) (by kernel_rfl) (by kernel_rfl) hS.out ?_
        apply Exists.intro
        refine And.intro (by simp [Act.put, go_sem]; rfl) ?_
        refine pl_skip (i := 25) rfl (by kernel_rfl) (by kernel_rfl) (by kernel_rfl) (by kernel_rfl) hS.out ?_
        apply Exists.intro
        refine And.intro (by simp [Act.put, go_sem]; rfl) ?_
        refine pl_skip (i := 26) rfl (by kernel_rfl) (by kernel_rfl) (by kernel_rfl) (by kernel_rfl) hS.out ?_
        apply Exists.intro
        refine And.intro (by simp [Act.put, go_sem]; rfl) ?_
        refine pl_skip (i := 27) rfl (by kernel_rfl) (by kernel_rfl) (by kernel_rfl) (by kernel_rfl) hS.out ?_
        apply Exists.intro
        refine And.intro (by simp [Act.put, go_sem]; rfl) ?_
        refine pl_skip (i := 28) rfl (by kernel_rfl) (by kernel_rfl) (by kernel_rfl) (by kernel_rfl) hS.out ?_
        apply Exists.intro
        refine And.intro (by simp [Act.put, go_sem]; rfl) ?_
        refine pl_take (i := 29) 66 rfl rfl rfl (by kernel_rfl) (by kernel_rfl) (by kernel_rfl) (by simp [Act.put]) hS.out ?_
        apply Exists.intro
        refine And.intro (fun w' hS' => ?_) ?_
        · go_wp2
          first
            | exact ⟨trivial, rfl⟩
            | exact rfl
        refine pl_done (by kernel_rfl) ?_
        have hf' : Hid (R = false) := Lib.hid (by
          rw [hf.out]
          have : decide (x.ins = y.ins) = false := decide_eq_false (fun e => by
            have h1 := HXY.out.1
            rw [e, HXY.out.2.1] at h1
            have h2 := QP.out
            simp only [Option.some.injEq] at h1
            rw [h1] at h2
            simp at h2)
          rw [this, Bool.and_false])
        have B1 : Hid (Below w.heap.size w wr.drew) := Lib.hid (BB.out.tr HB.out).drew
        go_wp2
        go_ret
        exact ⟨by rw [hf'.out]; rfl, B1.out⟩
      · have QP := Lib.hid hpt
        clear hpt
        cases hw : (xi.wit != yi.wit)
        · have QW := Lib.hid hw
          clear hw
          go_wp2_with fail
          refine pl_start 30 rfl (fun w' => CB w' 37 w.heap.size [.slice (some ad) N c0, .slice a2 K c2, .int .u64 x.nonce] ∧ CB w' 37 (w.heap.size + 1) [.slice (some bd) N c1, .slice a3 K c3, .int .u64 y.nonce] ∧ Rd w' 34 (.slice (some ad) N c0) N ((x.ins.zip us).flatMap inC) ∧ Rd w' 34 (.slice (some bd) N c1) N ((y.ins.zip vs).flatMap inC) ∧ Rd w' 1 ux xi.wit.length (bvs xi.wit) ∧ Rd w' 1 uy yi.wit.length (bvs yi.wit)) (by kernel_rfl) ?_
          refine pl_take (i := 0) 37 rfl rfl rfl (by kernel_rfl) (by kernel_rfl) (by kernel_rfl) (by simp [Act.put]) hS.out ?_
          apply Exists.intro
          refine And.intro (fun w' hS' => ?_) ?_
          · go_wp2
            first
              | exact ⟨trivial, rfl⟩
              | exact rfl
          refine pl_take (i := 1) 38 rfl rfl rfl (by kernel_rfl) (by kernel_rfl) (by kernel_rfl) (by simp [Act.put]) hS.out ?_
          apply Exists.intro
          refine And.intro (fun w' hS' => ?_) ?_
          · have hc := hS'.1.cell 0 _ rfl
            clear hS'
            go_wp2
            first
              | exact ⟨trivial, rfl⟩
              | exact rfl
          refine pl_take (i := 2) 39 rfl rfl rfl (by kernel_rfl) (by kernel_rfl) (by kernel_rfl) (by simp [Act.put]) hS.out ?_
          apply Exists.intro
          refine And.intro (fun w' hS' => ?_) ?_
          · go_wp2
            first
              | exact ⟨trivial, rfl⟩
              | exact rfl
          refine pl_take (i := 3) 40 rfl rfl rfl (by kernel_rfl) (by kernel_rfl) (by kernel_rfl) (by simp [Act.put]) hS.out ?_
          apply Exists.intro
          refine And.intro (fun w' hS' => ?_) ?_
          · clear hS'
            go_wp2
            first
              | exact ⟨trivial, rfl⟩
              | exact rfl
          refine pl_take (i := 4) 41 rfl rfl rfl (by kernel_rfl) (by kernel_rfl) (by kernel_rfl) (by simp [Act.put]) hS.out ?_
          apply Exists.intro
          refine And.intro (fun w' hS' => ?_) ?_
          · go_wp2
            first
              | exact ⟨trivial, rfl⟩
              | exact rfl
          refine pl_take (i := 5) 42 rfl rfl rfl (by kernel_rfl) (by kernel_rfl) (by kernel_rfl) (by simp [Act.put]) hS.out ?_
          apply Exists.intro
          refine And.intro (fun w' hS' => ?_) ?_
          · refine wpList_load_agg rfl 41 (.tmp 41) rfl (ad.add (k * 34)) rfl (ptC xi) _ (in_pt (hS'.2.2.1.at HOK.out.1 HZ.out.1)) Try.underlying41 rfl (by rw [ptC_length HXY.out.2.2.1]; exact infoPt) ?_
            clear hS'
            go_wp2
            exact ⟨trivial, rfl⟩
          refine pl_take (i := 6) 43 rfl rfl rfl (by kernel_rfl) (by kernel_rfl) (by kernel_rfl) (by simp [Act.put]) hS.out ?_
          apply Exists.intro
          refine And.intro (fun w' hS' => ?_) ?_
          · go_wp2
            first
              | exact ⟨trivial, rfl⟩
              | exact rfl
          refine pl_take (i := 7) 44 rfl rfl rfl (by kernel_rfl) (by kernel_rfl) (by kernel_rfl) (by simp [Act.put]) hS.out ?_
          apply Exists.intro
          refine And.intro (fun w' hS' => ?_) ?_
          · have hc := hS'.2.1.cell 0 _ rfl
            clear hS'
            go_wp2
            first
              | exact ⟨trivial, rfl⟩
              | exact rfl
          refine pl_take (i := 8) 45 rfl rfl rfl (by kernel_rfl) (by kernel_rfl) (by kernel_rfl) (by simp [Act.put]) hS.out ?_
          apply Exists.intro
          refine And.intro (fun w' hS' => ?_) ?_
          · go_wp2
            first
              | exact ⟨trivial, rfl⟩
              | exact rfl
          refine pl_take (i := 9) 46 rfl rfl rfl (by kernel_rfl) (by kernel_rfl) (by kernel_rfl) (by simp [Act.put]) hS.out ?_
          apply Exists.intro
          refine And.intro (fun w' hS' => ?_) ?_
          · clear hS'
            go_wp2
            first
              | exact ⟨trivial, rfl⟩
              | exact rfl
          refine pl_take (i := 10) 47 rfl rfl rfl (by kernel_rfl) (by kernel_rfl) (by kernel_rfl) (by simp [Act.put]) hS.out ?_
          apply Exists.intro
          refine And.intro (fun w' hS' => ?_) ?_
          · go_wp2
            first
              | exact ⟨trivial, rfl⟩
              | exact rfl
          refine pl_take (i := 11) 48 rfl rfl rfl (by kernel_rfl) (by kernel_rfl) (by kernel_rfl) (by simp [Act.put]) hS.out ?_
          apply Exists.intro
          refine And.intro (fun w' hS' => ?_) ?_
          · refine wpList_load_agg rfl 41 (.tmp 47) rfl (bd.add (k * 34)) rfl (ptC yi) _ (in_pt (hS'.2.2.2.1.at HOK.out.2 HZ.out.2)) Try.underlying41 rfl (by rw [ptC_length HXY.out.2.2.2]; exact infoPt) ?_
            clear hS'
            go_wp2
            exact ⟨trivial, rfl⟩
          refine pl_take (i := 12) 49 rfl rfl rfl (by kernel_rfl) (by kernel_rfl) (by kernel_rfl) (by simp [Act.put]) hS.out ?_
          apply Exists.intro
          refine And.intro (fun w' hS' => ?_) ?_
          · refine wpList_bin rfl .neq 41 41 (.tmp 42) (.tmp 48) rfl (.bool false) (eqGuard_agg _ _ _ _ _ _ _ (by kernel_rfl)) ((pt_ne w' xi yi HXY.out.2.2.1 HXY.out.2.2.2).trans (by rw [QP.out]; rfl)) ?_
            clear hS'
            go_wp2
            exact ⟨trivial, rfl⟩
          refine pl_take (i := 13) 50 rfl rfl rfl (by kernel_rfl) (by kernel_rfl) (by kernel_rfl) (by simp [Act.put]) hS.out ?_
          apply Exists.intro
          refine And.intro (fun w' hS' => ?_) ?_
          · go_wp2
            first
              | exact ⟨trivial, rfl⟩
              | exact rfl
          refine pl_take (i := 14) 51 rfl rfl rfl (by kernel_rfl) (by kernel_rfl) (by kernel_rfl) (by simp [Act.put]) hS.out ?_
          apply Exists.intro
          refine And.intro (fun w' hS' => ?_) ?_
          · refine wpList_unguard' rfl ?_
            clear hS'
            go_wp2
            first
              | exact ⟨trivial, rfl⟩
              | exact rfl
          refine pl_take (i := 15) 52 rfl rfl rfl (by kernel_rfl) (by kernel_rfl) (by kernel_rfl) (by simp [Act.put]) hS.out ?_
          apply Exists.intro
          refine And.intro (fun w' hS' => ?_) ?_
          · refine wpList_unguard' rfl ?_
            have hc := hS'.1.cell 0 _ rfl
            clear hS'
            go_wp2
            first
              | exact ⟨trivial, rfl⟩
              | exact rfl
          refine pl_take (i := 16) 53 rfl rfl rfl (by kernel_rfl) (by kernel_rfl) (by kernel_rfl) (by simp [Act.put]) hS.out ?_
          apply Exists.intro
          refine And.intro (fun w' hS' => ?_) ?_
          · refine wpList_unguard' rfl ?_
            clear hS'
            go_wp2
            first
              | exact ⟨trivial, rfl⟩
              | exact rfl
          refine pl_take (i := 17) 54 rfl rfl rfl (by kernel_rfl) (by kernel_rfl) (by kernel_rfl) (by simp [Act.put]) hS.out ?_
          apply Exists.intro
          refine And.intro (fun w' hS' => ?_) ?_
          · refine wpList_unguard' rfl ?_
            clear hS'
            go_wp2
            first
              | exact ⟨trivial, rfl⟩
              | exact rfl
          refine pl_take (i := 18) 55 rfl rfl rfl (by kernel_rfl) (by kernel_rfl) (by kernel_rfl) (by simp [Act.put]) hS.out ?_
          apply Exists.intro
          refine And.intro (fun w' hS' => ?_) ?_
          · refine wpList_unguard' rfl ?_
            clear hS'
            go_wp2
            first
              | exact ⟨trivial, rfl⟩
              | exact rfl
          refine pl_take (i := 19) 56 rfl rfl rfl (by kernel_rfl) (by kernel_rfl) (by kernel_rfl) (by simp [Act.put]) hS.out ?_
          apply Exists.intro
          refine And.intro (fun w' hS' => ?_) ?_
          · refine wpList_unguard' rfl ?_
            have hc := in_wit (hS'.2.2.1.at HOK.out.1 HZ.out.1) HXY.out.2.2.1
            clear hS'
            go_wp2
            first
              | exact ⟨trivial, rfl⟩
              | exact rfl
          refine pl_take (i := 20) 57 rfl rfl rfl (by kernel_rfl) (by kernel_rfl) (by kernel_rfl) (by simp [Act.put]) hS.out ?_
          apply Exists.intro
          refine And.intro (fun w' hS' => ?_) ?_
          · refine wpList_unguard' rfl ?_
            have hv := hS'.2.2.2.2.1.conv (P := Try.prog) 42 9 5 Try.underlying42 Try.underlying5 Try.underlying9
            clear hS'
            go_wp2
            first
              | exact ⟨trivial, rfl⟩
              | exact rfl
          refine pl_take (i := 21) 58 rfl rfl rfl (by kernel_rfl) (by kernel_rfl) (by kernel_rfl) (by simp [Act.put]) hS.out ?_
          apply Exists.intro
          refine And.intro (fun w' hS' => ?_) ?_
          · refine wpList_unguard' rfl ?_
            clear hS'
            go_wp2
            first
              | exact ⟨trivial, rfl⟩
              | exact rfl
          refine pl_take (i := 22) 59 rfl rfl rfl (by kernel_rfl) (by kernel_rfl) (by kernel_rfl) (by simp [Act.put]) hS.out ?_
          apply Exists.intro
          refine And.intro (fun w' hS' => ?_) ?_
          · refine wpList_unguard' rfl ?_
            have hc := hS'.2.1.cell 0 _ rfl
            clear hS'
            go_wp2
            first
              | exact ⟨trivial, rfl⟩
              | exact rfl
          refine pl_take (i := 23) 60 rfl rfl rfl (by kernel_rfl) (by kernel_rfl) (by kernel_rfl) (by simp [Act.put]) hS.out ?_
          apply Exists.intro
          refine And.intro (fun w' hS' => ?_) ?_
          · refine wpList_unguard' rfl ?_
            clear hS'
            go_wp2
            first
              | exact ⟨trivial, rfl⟩
              | exact rfl
          refine pl_take (i := 24) 61 rfl rfl rfl (by kernel_rfl) (by kernel_rfl) (by kernel_rfl) (by simp [Act.put]) hS.out ?_
          apply Exists.intro
          refine And.intro (fun w' hS' => ?_) ?_
          · refine wpList_unguard' rfl ?_
            clear hS'
            go_wp2
            first
              | exact ⟨trivial, rfl⟩
              | exact rfl
          refine pl_take (i := 25) 62 rfl rfl rfl (by kernel_rfl) (by kernel_rfl) (by kernel_rfl) (by simp [Act.put]) hS.out ?_
          apply Exists.intro
          refine And.intro (fun w' hS' => ?_) ?_
          · refine wpList_unguard' rfl ?_
            clear hS'
            go_wp2
            first
              | exact ⟨trivial, rfl⟩
              | exact rfl
          refine pl_take (i := 26) 63 rfl rfl rfl (by kernel_rfl) (by kernel_rfl) (by kernel_rfl) (by simp [Act.put]) hS.out ?_
          apply Exists.intro
          refine And.intro (fun w' hS' => ?_) ?_
          · refine wpList_unguard' rfl ?_
            have hc := in_wit (hS'.2.2.2.1.at HOK.out.2 HZ.out.2) HXY.out.2.2.2
            clear hS'
            go_wp2
            first
              | exact ⟨trivial, rfl⟩
              | exact rfl
          refine pl_take (i := 27) 64 rfl rfl rfl (by kernel_rfl) (by kernel_rfl) (by kernel_rfl) (by simp [Act.put]) hS.out ?_
          apply Exists.intro
          refine And.intro (fun w' hS' => ?_) ?_
          · refine wpList_unguard' rfl ?_
            have hv := hS'.2.2.2.2.2.conv (P := Try.prog) 42 9 5 Try.underlying42 Try.underlying5 Try.underlying9
            clear hS'
            go_wp2
            first
              | exact ⟨trivial, rfl⟩
              | exact rfl
          refine pl_take (i := 28) 65 rfl rfl rfl (by kernel_rfl) (by kernel_rfl) (by kernel_rfl) (by simp [Act.put]) hS.out ?_
          apply Exists.intro
          refine And.intro (fun w' hS' => ?_) ?_
          · refine wpList_unguard' rfl ?_
            refine wpList_bin rfl .neq 9 9 (.tmp 57) (.tmp 64) rfl (.bool false) (str_guard _ _ _ _ _ _) ((str_neq w' xi.wit yi.wit).trans (by rw [QW.out])) ?_
            clear hS'
            go_wp2
            exact ⟨trivial, rfl⟩
          refine pl_take (i := 29) 66 rfl rfl rfl (by kernel_rfl) (by kernel_rfl) (by kernel_rfl) (by simp [Act.put]) hS.out ?_
          apply Exists.intro
          refine And.intro (fun w' hS' => ?_) ?_
          · go_wp2
            first
              | exact ⟨trivial, rfl⟩
              | exact rfl
          refine pl_done (by kernel_rfl) ?_
          have HT' := Lib.hid (take_step HXY.out.1 HXY.out.2.1 HT.out (by
            have h1 := QW.out
            have h2 := QP.out
            cases xi; cases yi
            simp at h1 h2 ⊢
            exact ⟨h2.1, h2.2, h1⟩))
          have B1 : Hid (Below w2.heap.size w2 wr.drew) := Lib.hid HB.out.drew
          clear hc10
          go_wp2
          go_roundw
          case rel => exact ⟨B1.out, k + 1, HK.out, by go_num, HT'.out⟩
          case measure => simp only [RowKit.intOf]; have := HK.out; omega
        · have QW := Lib.hid hw
          clear hw
          go_wp2_with fail
          refine pl_start 30 rfl (fun w' => CB w' 37 w.heap.size [.slice (some ad) N c0, .slice a2 K c2, .int .u64 x.nonce] ∧ CB w' 37 (w.heap.size + 1) [.slice (some bd) N c1, .slice a3 K c3, .int .u64 y.nonce] ∧ Rd w' 34 (.slice (some ad) N c0) N ((x.ins.zip us).flatMap inC) ∧ Rd w' 34 (.slice (some bd) N c1) N ((y.ins.zip vs).flatMap inC) ∧ Rd w' 1 ux xi.wit.length (bvs xi.wit) ∧ Rd w' 1 uy yi.wit.length (bvs yi.wit)) (by kernel_rfl) ?_
          refine pl_take (i := 0) 37 rfl rfl rfl (by kernel_rfl) (by kernel_rfl) (by kernel_rfl) (by simp [Act.put]) hS.out ?_
          apply Exists.intro
          refine And.intro (fun w' hS' => ?_) ?_
          · go_wp2
            first
              | exact ⟨trivial, rfl⟩
              | exact rfl
          refine pl_take (i := 1) 38 rfl rfl rfl (by kernel_rfl) (by kernel_rfl) (by kernel_rfl) (by simp [Act.put]) hS.out ?_
          apply Exists.intro
          refine And.intro (fun w' hS' => ?_) ?_
          · have hc := hS'.1.cell 0 _ rfl
            clear hS'
            go_wp2
            first
              | exact ⟨trivial, rfl⟩
              | exact rfl
          refine pl_take (i := 2) 39 rfl rfl rfl (by kernel_rfl) (by kernel_rfl) (by kernel_rfl) (by simp [Act.put]) hS.out ?_
          apply Exists.intro
          refine And.intro (fun w' hS' => ?_) ?_
          · go_wp2
            first
              | exact ⟨trivial, rfl⟩
              | exact rfl
          refine pl_take (i := 3) 40 rfl rfl rfl (by kernel_rfl) (by kernel_rfl) (by kernel_rfl) (by simp [Act.put]) hS.out ?_
          apply Exists.intro
          refine And.intro (fun w' hS' => ?_) ?_
          · clear hS'
            go_wp2
            first
              | exact ⟨trivial, rfl⟩
              | exact rfl
          refine pl_take (i := 4) 41 rfl rfl rfl (by kernel_rfl) (by kernel_rfl) (by kernel_rfl) (by simp [Act.put]) hS.out ?_
          apply Exists.intro
          refine And.intro (fun w' hS' => ?_) ?_
          · go_wp2
            first
              | exact ⟨trivial, rfl⟩
              | exact rfl
          refine pl_take (i := 5) 42 rfl rfl rfl (by kernel_rfl) (by kernel_rfl) (by kernel_rfl) (by simp [Act.put]) hS.out ?_
          apply Exists.intro
          refine And.intro (fun w' hS' => ?_) ?_
          · refine wpList_load_agg rfl 41 (.tmp 41) rfl (ad.add (k * 34)) rfl (ptC xi) _ (in_pt (hS'.2.2.1.at HOK.out.1 HZ.out.1)) Try.underlying41 rfl (by rw [ptC_length HXY.out.2.2.1]; exact infoPt) ?_
            clear hS'
            go_wp2
            exact ⟨trivial, rfl⟩
          refine pl_take (i := 6) 43 rfl rfl rfl (by kernel_rfl) (by kernel_rfl) (by kernel_rfl) (by simp [Act.put]) hS.out ?_
          apply Exists.intro
          refine And.intro (fun w' hS' => ?_) ?_
          · go_wp2
            first
              | exact ⟨trivial, rfl⟩
              | exact rfl
          refine pl_take (i := 7) 44 rfl rfl rfl (by kernel_rfl) (by kernel_rfl) (by kernel_rfl) (by simp [Act.put]) hS.out ?_
          apply Exists.intro
          refine And.intro (fun w' hS' => ?_) ?_
          · have hc := hS'.2.1.cell 0 _ rfl
            clear hS'
            go_wp2
            first
              | exact ⟨trivial, rfl⟩
              | exact rfl
          refine pl_take (i := 8) 45 rfl rfl rfl (by kernel_rfl) (by kernel_rfl) (by kernel_rfl) (by simp [Act.put]) hS.out ?_
          apply Exists.intro
          refine And.intro (fun w' hS' => ?_) ?_
          · go_wp2
            first
              | exact ⟨trivial, rfl⟩
              | exact rfl
          refine pl_take (i := 9) 46 rfl rfl rfl (by kernel_rfl) (by kernel_rfl) (by kernel_rfl) (by simp [Act.put]) hS.out ?_
          apply Exists.intro
          refine And.intro (fun w' hS' => ?_) ?_
          · clear hS'
            go_wp2
            first
              | exact ⟨trivial, rfl⟩
              | exact rfl
          refine pl_take (i := 10) 47 rfl rfl rfl (by kernel_rfl) (by kernel_rfl) (by kernel_rfl) (by simp [Act.put]) hS.out ?_
          apply Exists.intro
          refine And.intro (fun w' hS' => ?_) ?_
          · go_wp2
            first
              | exact ⟨trivial, rfl⟩
              | exact rfl
          refine pl_take (i := 11) 48 rfl rfl rfl (by kernel_rfl) (by kernel_rfl) (by kernel_rfl) (by simp [Act.put]) hS.out ?_
          apply Exists.intro
          refine And.intro (fun w' hS' => ?_) ?_
          · refine wpList_load_agg rfl 41 (.tmp 47) rfl (bd.add (k * 34)) rfl (ptC yi) _ (in_pt (hS'.2.2.2.1.at HOK.out.2 HZ.out.2)) Try.underlying41 rfl (by rw [ptC_length HXY.out.2.2.2]; exact infoPt) ?_
            clear hS'
            go_wp2
            exact ⟨trivial, rfl⟩
          refine pl_take (i := 12) 49 rfl rfl rfl (by kernel_rfl) (by kernel_rfl) (by kernel_rfl) (by simp [Act.put]) hS.out ?_
          apply Exists.intro
          refine And.intro (fun w' hS' => ?_) ?_
          · refine wpList_bin rfl .neq 41 41 (.tmp 42) (.tmp 48) rfl (.bool false) (eqGuard_agg _ _ _ _ _ _ _ (by kernel_rfl)) ((pt_ne w' xi yi HXY.out.2.2.1 HXY.out.2.2.2).trans (by rw [QP.out]; rfl)) ?_
            clear hS'
            go_wp2
            exact ⟨trivial, rfl⟩
          refine pl_take (i := 13) 50 rfl rfl rfl (by kernel_rfl) (by kernel_rfl) (by kernel_rfl) (by simp [Act.put]) hS.out ?_
          apply Exists.intro
          refine And.intro (fun w' hS' => ?_) ?_
          · go_wp2
            first
              | exact ⟨trivial, rfl⟩
              | exact rfl
          refine pl_take (i := 14) 51 rfl rfl rfl (by kernel_rfl) (by kernel_rfl) (by kernel_rfl) (by simp [Act.put]) hS.out ?_
          apply Exists.intro
          refine And.intro (fun w' hS' => ?_) ?_
          · refine wpList_unguard' rfl ?_
            clear hS'
            go_wp2
            first
              | exact ⟨trivial, rfl⟩
              | exact rfl
          refine pl_take (i := 15) 52 rfl rfl rfl (by kernel_rfl) (by kernel_rfl) (by kernel_rfl) (by simp [Act.put]) hS.out ?_
          apply Exists.intro
          refine And.intro (fun w' hS' => ?_) ?_
          · refine wpList_unguard' rfl ?_
            have hc := hS'.1.cell 0 _ rfl
            clear hS'
            go_wp2
            first
              | exact ⟨trivial, rfl⟩
              | exact rfl
          refine pl_take (i := 16) 53 rfl rfl rfl (by kernel_rfl) (by kernel_rfl) (by kernel_rfl) (by simp [Act.put]) hS.out ?_
          apply Exists.intro
          refine And.intro (fun w' hS' => ?_) ?_
          · refine wpList_unguard' rfl ?_
            clear hS'
            go_wp2
            first
              | exact ⟨trivial, rfl⟩
              | exact rfl
          refine pl_take (i := 17) 54 rfl rfl rfl (by kernel_rfl) (by kernel_rfl) (by kernel_rfl) (by simp [Act.put]) hS.out ?_
          apply Exists.intro
          refine And.intro (fun w' hS' => ?_) ?_
          · refine wpList_unguard' rfl ?_
            clear hS'
            go_wp2
            first
              | exact ⟨trivial, rfl⟩
              | exact rfl
          refine pl_take (i := 18) 55 rfl rfl rfl (by kernel_rfl) (by kernel_rfl) (by kernel_rfl) (by simp [Act.put]) hS.out ?_
          apply Exists.intro
          refine And.intro (fun w' hS' => ?_) ?_
          · refine wpList_unguard' rfl ?_
            clear hS'
            go_wp2
            first
              | exact ⟨trivial, rfl⟩
              | exact rfl
          refine pl_take (i := 19) 56 rfl rfl rfl (by kernel_rfl) (by kernel_rfl) (by kernel_rfl) (by simp [Act.put]) hS.out ?_
          apply Exists.intro
          refine And.intro (fun w' hS' => ?_) ?_
          · refine wpList_unguard' rfl ?_
            have hc := in_wit (hS'.2.2.1.at HOK.out.1 HZ.out.1) HXY.out.2.2.1
            clear hS'
            go_wp2
            first
              | exact ⟨trivial, rfl⟩
              | exact rfl
          refine pl_take (i := 20) 57 rfl rfl rfl (by kernel_rfl) (by kernel_rfl) (by kernel_rfl) (by simp [Act.put]) hS.out ?_
          apply Exists.intro
          refine And.intro (fun w' hS' => ?_) ?_
          · refine wpList_unguard' rfl ?_
            have hv := hS'.2.2.2.2.1.conv (P := Try.prog) 42 9 5 Try.underlying42 Try.underlying5 Try.underlying9
            clear hS'
            go_wp2
            first
              | exact ⟨trivial, rfl⟩
              | exact rfl
          refine pl_take (i := 21) 58 rfl rfl rfl (by kernel_rfl) (by kernel_rfl) (by kernel_rfl) (by simp [Act.put]) hS.out ?_
          apply Exists.intro
          refine And.intro (fun w' hS' => ?_) ?_
          · refine wpList_unguard' rfl ?_
            clear hS'
            go_wp2
            first
              | exact ⟨trivial, rfl⟩
              | exact rfl
          refine pl_take (i := 22) 59 rfl rfl rfl (by kernel_rfl) (by kernel_rfl) (by kernel_rfl) (by simp [Act.put]) hS.out ?_
          apply Exists.intro
          refine And.intro (fun w' hS' => ?_) ?_
          · refine wpList_unguard' rfl ?_
            have hc := hS'.2.1.cell 0 _ rfl
            clear hS'
            go_wp2
            first
              | exact ⟨trivial, rfl⟩
              | exact rfl
          refine pl_take (i := 23) 60 rfl rfl rfl (by kernel_rfl) (by kernel_rfl) (by kernel_rfl) (by simp [Act.put]) hS.out ?_
          apply Exists.intro
          refine And.intro (fun w' hS' => ?_) ?_
          · refine wpList_unguard' rfl ?_
            clear hS'
            go_wp2
            first
              | exact ⟨trivial, rfl⟩
              | exact rfl
          refine pl_take (i := 24) 61 rfl rfl rfl (by kernel_rfl) (by kernel_rfl) (by kernel_rfl) (by simp [Act.put]) hS.out ?_
          apply Exists.intro
          refine And.intro (fun w' hS' => ?_) ?_
          · refine wpList_unguard' rfl ?_
            clear hS'
            go_wp2
            first
              | exact ⟨trivial, rfl⟩
              | exact rfl
          refine pl_take (i := 25) 62 rfl rfl rfl (by kernel_rfl) (by kernel_rfl) (by kernel_rfl) (by simp [Act.put]) hS.out ?_
          apply Exists.intro
          refine And.intro (fun w' hS' => ?_) ?_
          · refine wpList_unguard' rfl ?_
            clear hS'
            go_wp2
            first
              | exact ⟨trivial, rfl⟩
              | exact rfl
          refine pl_take (i := 26) 63 rfl rfl rfl (by kernel_rfl) (by kernel_rfl) (by kernel_rfl) (by simp [Act.put]) hS.out ?_
          apply Exists.intro
          refine And.intro (fun w' hS' => ?_) ?_
          · refine wpList_unguard' rfl ?_
            have hc := in_wit (hS'.2.2.2.1.at HOK.out.2 HZ.out.2) HXY.out.2.2.2
            clear hS'
            go_wp2
            first
              | exact ⟨trivial, rfl⟩
              | exact rfl
          refine pl_take (i := 27) 64 rfl rfl rfl (by kernel_rfl) (by kernel_rfl) (by kernel_rfl) (by simp [Act.put]) hS.out ?_
          apply Exists.intro
          refine And.intro (fun w' hS' => ?_) ?_
          · refine wpList_unguard' rfl ?_
            have hv := hS'.2.2.2.2.2.conv (P := Try.prog) 42 9 5 Try.underlying42 Try.underlying5 Try.underlying9
            clear hS'
            go_wp2
            first
              | exact ⟨trivial, rfl⟩
              | exact rfl
          refine pl_take (i := 28) 65 rfl rfl rfl (by kernel_rfl) (by kernel_rfl) (by kernel_rfl) (by simp [Act.put]) hS.out ?_
          apply Exists.intro
          refine And.intro (fun w' hS' => ?_) ?_
          · refine wpList_unguard' rfl ?_
            refine wpList_bin rfl .neq 9 9 (.tmp 57) (.tmp 64) rfl (.bool true) (str_guard _ _ _ _ _ _) ((str_neq w' xi.wit yi.wit).trans (by rw [QW.out])) ?_
            clear hS'
            go_wp2
            exact ⟨trivial, rfl⟩
          refine pl_take (i := 29) 66 rfl rfl rfl (by kernel_rfl) (by kernel_rfl) (by kernel_rfl) (by simp [Act.put]) hS.out ?_
          apply Exists.intro
          refine And.intro (fun w' hS' => ?_) ?_
          · go_wp2
            first
              | exact ⟨trivial, rfl⟩
              | exact rfl
          refine pl_done (by kernel_rfl) ?_
          have hf' : Hid (R = false) := Lib.hid (by
            rw [hf.out]
            have : decide (x.ins = y.ins) = false := decide_eq_false (fun e => by
              have h1 := HXY.out.1
              rw [e, HXY.out.2.1] at h1
              have h2 := QW.out
              simp only [Option.some.injEq] at h1
              rw [h1] at h2
              simp at h2)
            rw [this, Bool.and_false])
          have B1 : Hid (Below w.heap.size w wr.drew) := Lib.hid (BB.out.tr HB.out).drew
          go_wp2
          go_ret
          exact ⟨by rw [hf'.out]; rfl, B1.out⟩
    · have ik : ¬ ((k : Int) < (N : Int)) := by omega
      have hI : Hid (R = decide (x.outs = y.outs)) := Lib.hid (by
        have h1 := HT.out
        rw [List.take_of_length_le (by have := HP.out.1; omega), List.take_of_length_le (by have := HP.out.2.1; omega)] at h1
        rw [hf.out, decide_eq_true h1, Bool.and_true])
      replace BB := Lib.hid (BB.out.tr HB.out)
      replace KK := Lib.hid (And.intro (KK.out.1.fresh HB.out) (KK.out.2.fresh HB.out))
      clear hlt hk HB HT HE HOK HLs hf
      go_wp2
      clear hc10 ik
      obtain ⟨w3, hw3⟩ : ∃ w3, w3 = wr := ⟨_, rfl⟩
      rw [← hw3] at BB KK ⊢
      clear hw3
      go_loopw [6] (fun v6 wr => Below w3.heap.size w3 wr ∧ ∃ k : Nat, k ≤ K ∧ v6 = .int .i64 (k : Int) ∧ x.outs.take k = y.outs.take k)
        (fun v _ => K - (RowKit.intOf v).toNat)
      case atStart => exact ⟨Below.refl _ _, 0, by omega, rfl, rfl⟩
      case round =>
        obtain ⟨hb, k, hk, rfl, ht⟩ := hrel
        have HB := Lib.hid hb
        have HT := Lib.hid ht
        have hc11 := (KK.out.1.fresh hb).cell 1 _ rfl
        clear hb ht
        by_cases hlt : k < K
        · obtain ⟨xi, hx⟩ : ∃ z, x.outs[k]? = some z := ⟨_, List.getElem?_eq_getElem (by rw [← HP.out.2.2.1]; exact hlt)⟩
          obtain ⟨yi, hy⟩ : ∃ z, y.outs[k]? = some z := ⟨_, List.getElem?_eq_getElem (by rw [← HP.out.2.2.2]; exact hlt)⟩
          obtain ⟨ad, c, he⟩ := rd_some HI.out.2.2.1 (by omega)
          simp only [Value.slice.injEq, true_and] at he
          obtain ⟨rfl, rfl⟩ := he
          obtain ⟨bd, d, he⟩ := rd_some HI.out.2.2.2 (by omega)
          simp only [Value.slice.injEq, true_and] at he
          obtain ⟨rfl, rfl⟩ := he
          have HXY := Lib.hid (And.intro hx (And.intro hy (And.intro (HO.out.2.2.1 _ (List.mem_of_getElem? hx)) (HO.out.2.2.2 _ (List.mem_of_getElem? hy)))))
          have b2r : Below w.heap.size w wr.drew := (BB.out.tr HB.out).drew
          have hS : Hid (CB wr.drew 37 w.heap.size [.slice a0 N c0, .slice (some ad) K c2, .int .u64 x.nonce] ∧ CB wr.drew 37 (w.heap.size + 1) [.slice a1 N c1, .slice (some bd) K c3, .int .u64 y.nonce] ∧ Rd wr.drew 33 (.slice (some ad) K c2) K (x.outs.flatMap outC) ∧ Rd wr.drew 33 (.slice (some bd) K c3) K (y.outs.flatMap outC)) := Lib.hid ⟨KK.out.1.fresh HB.out.drew, KK.out.2.fresh HB.out.drew, HI.out.2.2.1.fresh b2r, HI.out.2.2.2.fresh b2r⟩
          have ik : (k : Int) < (K : Int) := by omega
          have HK := Lib.hid hlt
          clear hx hy hlt hk b2r
          cases hxy : (!decide (xi = yi))
          · have QX := Lib.hid hxy
            clear hxy
            go_wp2_with fail
            refine pl_start 11 rfl (fun w' => CB w' 37 w.heap.size [.slice a0 N c0, .slice (some ad) K c2, .int .u64 x.nonce] ∧ CB w' 37 (w.heap.size + 1) [.slice a1 N c1, .slice (some bd) K c3, .int .u64 y.nonce] ∧ Rd w' 33 (.slice (some ad) K c2) K (x.outs.flatMap outC) ∧ Rd w' 33 (.slice (some bd) K c3) K (y.outs.flatMap outC)) (by kernel_rfl) ?_
            refine pl_take (i := 0) 74 rfl rfl rfl (by kernel_rfl) (by kernel_rfl) (by kernel_rfl) (by simp [Act.put]) hS.out ?_
            apply Exists.intro
            refine And.intro (fun w' hS' => ?_) ?_
            · go_wp2
              first
                | exact ⟨trivial, rfl⟩
                | exact rfl
            refine pl_take (i := 1) 75 rfl rfl rfl (by kernel_rfl) (by kernel_rfl) (by kernel_rfl) (by simp [Act.put]) hS.out ?_
            apply Exists.intro
            refine And.intro (fun w' hS' => ?_) ?_
            · have hc := hS'.1.cell 1 _ rfl
              clear hS'
              go_wp2
              first
                | exact ⟨trivial, rfl⟩
                | exact rfl
            refine pl_take (i := 2) 76 rfl rfl rfl (by kernel_rfl) (by kernel_rfl) (by kernel_rfl) (by simp [Act.put]) hS.out ?_
            apply Exists.intro
            refine And.intro (fun w' hS' => ?_) ?_
            · go_wp2
              first
                | exact ⟨trivial, rfl⟩
                | exact rfl
            refine pl_take (i := 3) 77 rfl rfl rfl (by kernel_rfl) (by kernel_rfl) (by kernel_rfl) (by simp [Act.put]) hS.out ?_
            apply Exists.intro
            refine And.intro (fun w' hS' => ?_) ?_
            · clear hS'
              go_wp2
              first
                | exact ⟨trivial, rfl⟩
                | exact rfl
            refine pl_take (i := 4) 78 rfl rfl rfl (by kernel_rfl) (by kernel_rfl) (by kernel_rfl) (by simp [Act.put]) hS.out ?_
            apply Exists.intro
            refine And.intro (fun w' hS' => ?_) ?_
            · refine wpList_load_agg rfl 46 (.tmp 77) rfl (ad.add (k * 33)) rfl (outC xi) _ (hS'.2.2.1.at (fun z hz => outC_length (HO.out.2.2.1 z hz)) HXY.out.1) Try.underlying46 rfl (by rw [outC_length HXY.out.2.2.1]; exact infoOut) ?_
              clear hS'
              go_wp2
              exact ⟨trivial, rfl⟩
            refine pl_take (i := 5) 79 rfl rfl rfl (by kernel_rfl) (by kernel_rfl) (by kernel_rfl) (by simp [Act.put]) hS.out ?_
            apply Exists.intro
            refine And.intro (fun w' hS' => ?_) ?_
            · go_wp2
              first
                | exact ⟨trivial, rfl⟩
                | exact rfl
            refine pl_take (i := 6) 80 rfl rfl rfl (by kernel_rfl) (by kernel_rfl) (by kernel_rfl) (by simp [Act.put]) hS.out ?_
            apply Exists.intro
            refine And.intro (fun w' hS' => ?_) ?_
            · have hc := hS'.2.1.cell 1 _ rfl
              clear hS'
              go_wp2
              first
                | exact ⟨trivial, rfl⟩
                | exact rfl
            refine pl_take (i := 7) 81 rfl rfl rfl (by kernel_rfl) (by kernel_rfl) (by kernel_rfl) (by simp [Act.put]) hS.out ?_
            apply Exists.intro
            refine And.intro (fun w' hS' => ?_) ?_
            · go_wp2
              first
                | exact ⟨trivial, rfl⟩
                | exact rfl
            refine pl_take (i := 8) 82 rfl rfl rfl (by kernel_rfl) (by kernel_rfl) (by kernel_rfl) (by simp [Act.put]) hS.out ?_
            apply Exists.intro
            refine And.intro (fun w' hS' => ?_) ?_
            · clear hS'
              go_wp2
              first
                | exact ⟨trivial, rfl⟩
                | exact rfl
            refine pl_take (i := 9) 83 rfl rfl rfl (by kernel_rfl) (by kernel_rfl) (by kernel_rfl) (by simp [Act.put]) hS.out ?_
            apply Exists.intro
            refine And.intro (fun w' hS' => ?_) ?_
            · refine wpList_load_agg rfl 46 (.tmp 82) rfl (bd.add (k * 33)) rfl (outC yi) _ (hS'.2.2.2.at (fun z hz => outC_length (HO.out.2.2.2 z hz)) HXY.out.2.1) Try.underlying46 rfl (by rw [outC_length HXY.out.2.2.2]; exact infoOut) ?_
              clear hS'
              go_wp2
              exact ⟨trivial, rfl⟩
            refine pl_take (i := 10) 84 rfl rfl rfl (by kernel_rfl) (by kernel_rfl) (by kernel_rfl) (by simp [Act.put]) hS.out ?_
            apply Exists.intro
            refine And.intro (fun w' hS' => ?_) ?_
            · refine wpList_bin rfl .neq 46 46 (.tmp 78) (.tmp 83) rfl (.bool false) (eqGuard_agg _ _ _ _ _ _ _ (by kernel_rfl)) ((out_ne w' xi yi HXY.out.2.2.1 HXY.out.2.2.2).trans (by rw [QX.out])) ?_
              clear hS'
              go_wp2
              exact ⟨trivial, rfl⟩
            refine pl_done (by kernel_rfl) ?_
            have HT' := Lib.hid (take_step HXY.out.1 HXY.out.2.1 HT.out (by simpa using QX.out))
            have B1 : Hid (Below w3.heap.size w3 wr.drew) := Lib.hid HB.out.drew
            clear hc11
            go_wp2
            go_roundw
            case rel => exact ⟨B1.out, k + 1, HK.out, by go_num, HT'.out⟩
            case measure => simp only [RowKit.intOf]; have := HK.out; omega
          · have QX := Lib.hid hxy
            clear hxy
            go_wp2_with fail
            refine pl_start 11 rfl (fun w' => CB w' 37 w.heap.size [.slice a0 N c0, .slice (some ad) K c2, .int .u64 x.nonce] ∧ CB w' 37 (w.heap.size + 1) [.slice a1 N c1, .slice (some bd) K c3, .int .u64 y.nonce] ∧ Rd w' 33 (.slice (some ad) K c2) K (x.outs.flatMap outC) ∧ Rd w' 33 (.slice (some bd) K c3) K (y.outs.flatMap outC)) (by kernel_rfl) ?_
            refine pl_take (i := 0) 74 rfl rfl rfl (by kernel_rfl) (by kernel_rfl) (by kernel_rfl) (by simp [Act.put]) hS.out ?_
            apply Exists.intro
            refine And.intro (fun w' hS' => ?_) ?_
            · go_wp2
              first
                | exact ⟨trivial, rfl⟩
                | exact rfl
            refine pl_take (i := 1) 75 rfl rfl rfl (by kernel_rfl) (by kernel_rfl) (by kernel_rfl) (by simp [Act.put]) hS.out ?_
            apply Exists.intro
            refine And.intro (fun w' hS' => ?_) ?_
            · have hc := hS'.1.cell 1 _ rfl
              clear hS'
              go_wp2
              first
                | exact ⟨trivial, rfl⟩
                | exact rfl
            refine pl_take (i := 2) 76 rfl rfl rfl (by kernel_rfl) (by kernel_rfl) (by kernel_rfl) (by simp [Act.put]) hS.out ?_
            apply Exists.intro
            refine And.intro (fun w' hS' => ?_) ?_
            · go_wp2
              first
                | exact ⟨trivial, rfl⟩
                | exact rfl
            refine pl_take (i := 3) 77 rfl rfl rfl (by kernel_rfl) (by kernel_rfl) (by kernel_rfl) (by simp [Act.put]) hS.out ?_
            apply Exists.intro
            refine And.intro (fun w' hS' => ?_) ?_
            · clear hS'
              go_wp2
              first
                | exact ⟨trivial, rfl⟩
                | exact rfl
            refine pl_take (i := 4) 78 rfl rfl rfl (by kernel_rfl) (by kernel_rfl) (by kernel_rfl) (by simp [Act.put]) hS.out ?_
            apply Exists.intro
            refine And.intro (fun w' hS' => ?_) ?_
            · refine wpList_load_agg rfl 46 (.tmp 77) rfl (ad.add (k * 33)) rfl (outC xi) _ (hS'.2.2.1.at (fun z hz => outC_length (HO.out.2.2.1 z hz)) HXY.out.1) Try.underlying46 rfl (by rw [outC_length HXY.out.2.2.1]; exact infoOut) ?_
              clear hS'
              go_wp2
              exact ⟨trivial, rfl⟩
            refine pl_take (i := 5) 79 rfl rfl rfl (by kernel_rfl) (by kernel_rfl) (by kernel_rfl) (by simp [Act.put]) hS.out ?_
            apply Exists.intro
            refine And.intro (fun w' hS' => ?_) ?_
            · go_wp2
              first
                | exact ⟨trivial, rfl⟩
                | exact rfl
            refine pl_take (i := 6) 80 rfl rfl rfl (by kernel_rfl) (by kernel_rfl) (by kernel_rfl) (by simp [Act.put]) hS.out ?_
            apply Exists.intro
            refine And.intro (fun w' hS' => ?_) ?_
            · have hc := hS'.2.1.cell 1 _ rfl
              clear hS'
              go_wp2
              first
                | exact ⟨trivial, rfl⟩
                | exact rfl
            refine pl_take (i := 7) 81 rfl rfl rfl (by kernel_rfl) (by kernel_rfl) (by kernel_rfl) (by simp [Act.put]) hS.out ?_
            apply Exists.intro
            refine And.intro (fun w' hS' => ?_) ?_
            · go_wp2
              first
                | exact ⟨trivial, rfl⟩
                | exact rfl
            refine pl_take (i := 8) 82 rfl rfl rfl (by kernel_rfl) (by kernel_rfl) (by kernel_rfl) (by simp [Act.put]) hS.out ?_
            apply Exists.intro
            refine And.intro (fun w' hS' => ?_) ?_
            · clear hS'
              go_wp2
              first
                | exact ⟨trivial, rfl⟩
                | exact rfl
            refine pl_take (i := 9) 83 rfl rfl rfl (by kernel_rfl) (by kernel_rfl) (by kernel_rfl) (by simp [Act.put]) hS.out ?_
            apply Exists.intro
            refine And.intro (fun w' hS' => ?_) ?_
            · refine wpList_load_agg rfl 46 (.tmp 82) rfl (bd.add (k * 33)) rfl (outC yi) _ (hS'.2.2.2.at (fun z hz => outC_length (HO.out.2.2.2 z hz)) HXY.out.2.1) Try.underlying46 rfl (by rw [outC_length HXY.out.2.2.2]; exact infoOut) ?_
              clear hS'
              go_wp2
              exact ⟨trivial, rfl⟩
            refine pl_take (i := 10) 84 rfl rfl rfl (by kernel_rfl) (by kernel_rfl) (by kernel_rfl) (by simp [Act.put]) hS.out ?_
            apply Exists.intro
            refine And.intro (fun w' hS' => ?_) ?_
            · refine wpList_bin rfl .neq 46 46 (.tmp 78) (.tmp 83) rfl (.bool true) (eqGuard_agg _ _ _ _ _ _ _ (by kernel_rfl)) ((out_ne w' xi yi HXY.out.2.2.1 HXY.out.2.2.2).trans (by rw [QX.out])) ?_
              clear hS'
              go_wp2
              exact ⟨trivial, rfl⟩
            refine pl_done (by kernel_rfl) ?_
            have hf' : Hid (R = false) := Lib.hid (by
              rw [hI.out, decide_eq_false_iff_not]
              intro e
              have h1 := HXY.out.1
              rw [e, HXY.out.2.1] at h1
              have h2 := QX.out
              simp only [Option.some.injEq] at h1
              rw [h1] at h2
              simp at h2)
            have B1 : Hid (Below w.heap.size w wr.drew) := Lib.hid (BB.out.tr HB.out).drew
            go_wp2
            go_ret
            exact ⟨by rw [hf'.out]; rfl, B1.out⟩
        · have ik : ¬ ((k : Int) < (K : Int)) := by omega
          have hf' : Hid (R = true) := Lib.hid (by
            have h1 := HT.out
            rw [List.take_of_length_le (by have := HP.out.2.2.1; omega), List.take_of_length_le (by have := HP.out.2.2.2; omega)] at h1
            rw [hI.out, decide_eq_true h1])
          have B1 : Hid (Below w.heap.size w wr) := Lib.hid (BB.out.tr HB.out)
          clear hlt hk
          go_wp2
          go_ret
          exact ⟨by rw [hf'.out]; rfl, B1.out⟩

end Go.Proofs.Ytkbahhnjoidhcaa
