/- Law TxLooks: the walk. -/
import Derived.Test.YtkbahhnjoidhcaaVm
import Derived.Test.YtkbahhnjoidhcaaVn
import Derived.Test.YtkbahhnjoidhcaaVo
import Derived.Test.YtkbahhnjoidhcaaXt
namespace Go.Proofs.Ytkbahhnjoidhcaa
set_option linter.unusedVariables false
set_option linter.unusedSimpArgs false
open Go.RowKit

theorem tx_two (w : World) (F G : Nat → Prop) (x y : TxD) (u v : Value × Value) (hi : Ins F w u.1 x.ins) (ho : Outs F w u.2 x.outs) (hi' : Ins G w v.1 y.ins) (ho' : Outs G w v.2 y.outs) :
    ∃ w', w' = w.alloc (.cells (txC (x, u) ++ txC (y, v)).toArray 37) ∧ Txs (fun _ => True) w' (.slice (some ⟨w.heap.size, 0, none⟩) 2 2) [x, y] ∧ Below w.heap.size w w' := by
  have b : Below w.heap.size w (w.alloc (.cells (txC (x, u) ++ txC (y, v)).toArray 37)) := (Below.refl _ w).alloc (Nat.le_refl _) _
  refine ⟨_, rfl, ⟨[u, v], rfl, ⟨⟨rfl, .inr ⟨_, _, rfl, Nat.le_refl _, by decide, fun j c hj => ?_⟩⟩, fun _ _ => trivial⟩, fun i z t hz ht => ?_⟩, b⟩
  · rw [add_at, Nat.zero_add]
    exact (CB.new w 37 (txC (x, u) ++ txC (y, v))).cell j c (by simpa using hj)
  · match i, hz, ht with
    | 0, hz, ht => simp at hz ht; subst hz ht; exact ⟨(hi.fresh b).mono (fun _ _ => trivial), (ho.fresh b).mono (fun _ _ => trivial)⟩
    | 1, hz, ht => simp at hz ht; subst hz ht; exact ⟨(hi'.fresh b).mono (fun _ _ => trivial), (ho'.fresh b).mono (fun _ _ => trivial)⟩
    | n + 2, hz, _ => simp at hz

theorem Wk.ne_cb {ok : Nat → Value → Prop} {base g : Nat} {e e' : TypeId} {size : Nat} {w : World} {v : Value} {n : Nat} {L : List Value} (h : Wk ok base e size w v n) (hc : CB w e' g L) (he : e ≠ e') : v.ownBlock ≠ some g := by
  obtain ⟨xs, q, _⟩ := h
  exact cb_ne q hc he

theorem OwX.cb {vs : List Value} {base g : Nat} {w w' : World} {v : Value} {l : List InD} {L : List Value} (h : OwX vs base w v l) (hc : CB w 37 g L) (ho : Only g w w') : OwX vs base w' v l := by
  obtain ⟨h1, h2, h3, h4⟩ := h
  exact ⟨h1, own_onlyT h2 ho (cb_ne h2 hc (by decide)), fun i x u hx hu => own_onlyT (h3 i x u hx hu) ho (cb_ne (h3 i x u hx hu) hc (by decide)), h4⟩

theorem u64_guard (w : World) (op : BinOp) (x y : Operand) (a b : Int) : (eqGuard op 25 x y (.int .u64 a) (.int .u64 b)).run Try.prog w = .ok () w := by
  cases op <;> kernel_rfl
theorem u64_eq (w : World) (R : Int) : (binOp .eql 25 (.int .u64 R) (.int .u64 R)).run Try.prog w = .ok (.bool true) w := by
  have h : (R == R) = true := by simp
  have e : (binOp .eql 25 (.int .u64 R) (.int .u64 R)).run Try.prog w = .ok (.bool (R == R)) w := by kernel_rfl
  rw [e, h]

set_option maxRecDepth 100000 in
set_option maxHeartbeats 8000000 in
theorem txlooks_any (F G : Nat → Prop) (w : World) (x y : TxD) (u v : Value × Value) (wt : Value) (ws : Bs) (hi : Ins F w u.1 x.ins) (ho : Outs F w u.2 x.outs) (hi' : Ins G w v.1 y.ins) (ho' : Outs G w v.2 y.outs) (hwf : TxWf x) (hfit : TxFit x) (hww : Rd w 1 wt ws.length (bvs ws)) :
    Calls Try.prog 5 #[.agg (txC (x, u)).toArray, .agg (txC (y, v)).toArray, wt] w fun e w' => e = .returned (.bool true) ∧ Below w.heap.size w w' := by
  obtain ⟨u1, u2⟩ := u
  obtain ⟨v1, v2⟩ := v
  change Calls _ _ #[.agg #[u1, u2, .int .u64 x.nonce], .agg #[v1, v2, .int .u64 y.nonce], wt] _ _
  obtain ⟨a0, c0, he⟩ := hi.slice
  change u1 = _ at he
  subst he
  obtain ⟨a2, c2, he⟩ := ho.slice
  change u2 = _ at he
  subst he
  obtain ⟨a1, c1, he⟩ := hi'.slice
  change v1 = _ at he
  subst he
  obtain ⟨a3, c3, he⟩ := ho'.slice
  change v2 = _ at he
  subst he
  obtain ⟨aw, cw, rfl⟩ := hww.slice
  obtain ⟨N, hN⟩ : ∃ N, N = x.ins.length := ⟨_, rfl⟩
  obtain ⟨K, hK⟩ : ∃ K, K = x.outs.length := ⟨_, rfl⟩
  obtain ⟨M, hM⟩ : ∃ M, M = y.ins.length := ⟨_, rfl⟩
  obtain ⟨L, hL⟩ : ∃ L, L = y.outs.length := ⟨_, rfl⟩
  obtain ⟨W, hW⟩ : ∃ W, W = ws.length := ⟨_, rfl⟩
  rw [← hN] at hi
  rw [← hK] at ho
  rw [← hM] at hi'
  rw [← hL] at ho'
  rw [← hN, ← hK, ← hM, ← hL, ← hW]
  have HI : Hid (Ins F w (.slice a0 N c0) x.ins) := Lib.hid hi
  have HO : Hid (Outs F w (.slice a2 K c2) x.outs) := Lib.hid ho
  have HI' : Hid (Ins G w (.slice a1 M c1) y.ins) := Lib.hid hi'
  have HO' : Hid (Outs G w (.slice a3 L c3) y.outs) := Lib.hid ho'
  have HWW : Hid (W = ws.length ∧ Rd w 1 (.slice aw ws.length cw) ws.length (bvs ws)) := Lib.hid ⟨hW, hww⟩
  have HWF := Lib.hid hwf
  have HFT := Lib.hid hfit
  have HNK := Lib.hid (And.intro hN (And.intro hK (And.intro hi.ok ho.1)))
  obtain ⟨us, hlu, _, hru, heu⟩ := hi
  rw [← hN] at hlu hru
  change RdF F w 34 (.slice a0 N c0) N _ at hru
  have bN' : (N : Int) ≤ 9223372036854775807 := rd_small' hru.1
  obtain ⟨_, hrou⟩ := ho
  rw [← hK] at hrou
  change RdF F w 33 (.slice a2 K c2) K _ at hrou
  have bK' : (K : Int) ≤ 9223372036854775807 := rd_small' hrou.1
  have HRI := Lib.hid (And.intro hru.1 hrou.1)
  have HEI := Lib.hid (And.intro hlu heu)
  clear hN hK hM hL hW hi' ho' hlu hru heu hrou hwf hfit hww
  go_enter Try.func5, Try.ntmps5
  go_wp2_with (with_reducible refine stopAt 13 ?_)
  refine Stop.go ?_
  obtain ⟨w1, h1, k1, b1, s1⟩ := alloc_cb w 37 [.slice a0 N c0, .slice a2 K c2, .int .u64 x.nonce]
  obtain ⟨w2, h2, k2, b2, s2⟩ := alloc_cb w1 37 [.slice a1 M c1, .slice a3 L c3, .int .u64 y.nonce]
  change wpList _ _ _ _ _ ((w.alloc (.cells [.slice a0 N c0, .slice a2 K c2, .int .u64 x.nonce].toArray 37)).alloc (.cells [.slice a1 M c1, .slice a3 L c3, .int .u64 y.nonce].toArray 37))
  rw [← h1, ← h2]
  rw [s1] at k2
  have K1 : Hid (CB w2 37 w.heap.size [.slice a0 N c0, .slice a2 K c2, .int .u64 x.nonce]) := Lib.hid (k1.fresh b2)
  have K2 : Hid (CB w2 37 (w.heap.size + 1) [.slice a1 M c1, .slice a3 L c3, .int .u64 y.nonce]) := Lib.hid k2
  have BB := Lib.hid (b1.tr b2)
  clear h1 k1 b1 s1 h2 k2 b2 s2
  refine wpList_load_agg rfl 37 (.tmp 3) rfl ⟨w.heap.size, 0, none⟩ rfl [.slice a0 N c0, .slice a2 K c2, .int .u64 x.nonce] _ (At.block K1.out).load Try.underlying37 rfl (by exact infoTx) ?_
  go_wp2_with (with_reducible refine stopAt 14 ?_)
  refine Stop.go ?_
  refine wpList_load_agg rfl 37 (.tmp 4) rfl ⟨w.heap.size + 1, 0, none⟩ rfl [.slice a1 M c1, .slice a3 L c3, .int .u64 y.nonce] _ (At.block K2.out).load Try.underlying37 rfl (by exact infoTx) ?_
  go_wp2_with fail
  obtain ⟨w3, h3, t3, b3⟩ := tx_two w2 F G x y (.slice a0 N c0, .slice a2 K c2) (.slice a1 M c1, .slice a3 L c3) (HI.out.fresh BB.out) (HO.out.fresh BB.out) (HI'.out.fresh BB.out) (HO'.out.fresh BB.out)
  change Calls _ _ _ (w2.alloc (.cells (txC (x, (Value.slice a0 N c0, Value.slice a2 K c2)) ++ txC (y, (Value.slice a1 M c1, Value.slice a3 L c3))).toArray 37)) _
  rw [← h3]
  replace BB := Lib.hid (BB.out.tr b3)
  replace K1 := Lib.hid (K1.out.fresh b3)
  replace K2 := Lib.hid (K2.out.fresh b3)
  have T3 := Lib.hid t3
  clear h3 t3 b3
  refine (much5_any (fun _ => True) w3 _ [x, y] 2 T3.out).mono ?_
  rintro e w4 ⟨⟨Bm, rfl⟩, b4⟩
  replace BB := Lib.hid (BB.out.tr b4)
  replace K1 := Lib.hid (K1.out.fresh b4)
  replace K2 := Lib.hid (K2.out.fresh b4)
  clear b4 T3
  cases Bm
  rotate_left
  · go_wp2_with fail
    refine (known5_any w4).mono ?_
    rintro e w5 ⟨rfl, b5⟩
    have BF := Lib.hid (BB.out.tr b5)
    clear b5
    go_wp2
    go_ret
    exact ⟨rfl, BF.out⟩
  by_cases hl9 : W ≤ 9000
  rotate_left
  · have i9 : (9000 : Int) < (W : Int) := by omega
    go_wp2_with fail
    refine (known5_any w4).mono ?_
    rintro e w5 ⟨rfl, b5⟩
    have BF := Lib.hid (BB.out.tr b5)
    clear b5
    go_wp2
    go_ret
    exact ⟨rfl, BF.out⟩
  have i9 : ¬ ((9000 : Int) < (W : Int)) := by omega
  have HW9 := Lib.hid hl9
  clear hl9
  go_wp2_with fail
  clear i9
  obtain ⟨i3, hi3, hz0, hz1, hz2⟩ := info_parts infoC_out
  have HINO := Lib.hid (And.intro hi3 (And.intro hz0 (And.intro hz1 hz2)))
  clear hi3 hz0 hz1 hz2
  obtain ⟨i2, hi2, hz0, hz1, hz2⟩ := info_parts infoC_in
  have HINI := Lib.hid (And.intro hi2 (And.intro hz0 (And.intro hz1 hz2)))
  clear hi2 hz0 hz1 hz2
  obtain ⟨i1, hi1, hz0, hz1, hz2⟩ := info_parts infoU8
  have HINB := Lib.hid (And.intro hi1 (And.intro hz0 (And.intro hz1 hz2)))
  clear hi1 hz0 hz1 hz2
  have hS : Hid (CB w4.drew 37 w.heap.size [.slice a0 N c0, .slice a2 K c2, .int .u64 x.nonce]) := Lib.hid K1.out.drew
  obtain ⟨w5, hw5⟩ : ∃ w5, w5 = w4.drew := ⟨_, rfl⟩
  replace BB : Hid (Below w.heap.size w w5) := Lib.hid (by rw [hw5]; exact BB.out.drew)
  replace K2 : Hid (CB w5 37 (w.heap.size + 1) [.slice a1 M c1, .slice a3 L c3, .int .u64 y.nonce]) := Lib.hid (by rw [hw5]; exact K2.out.drew)
  refine pl_start 8 rfl (fun w' => CB w' 37 w.heap.size [.slice a0 N c0, .slice a2 K c2, .int .u64 x.nonce]) (by kernel_rfl) ?_
  rw [← hw5] at hS ⊢
  clear hw5 K1
  refine pl_take (i := 0) 23 rfl rfl rfl (by kernel_rfl) (by kernel_rfl) (by kernel_rfl) (by simp [Act.put]) hS.out ?_
  apply Exists.intro
  refine And.intro (fun w' hS' => ?_) ?_
  · go_wp2
    first
      | exact ⟨trivial, rfl⟩
      | exact rfl
  refine pl_take (i := 1) 24 rfl rfl rfl (by kernel_rfl) (by kernel_rfl) (by kernel_rfl) (by simp [Act.put]) hS.out ?_
  apply Exists.intro
  refine And.intro (fun w' hS' => ?_) ?_
  · have hc := hS'.cell 2 _ rfl
    clear hS'
    go_wp2
    first
      | exact ⟨trivial, rfl⟩
      | exact rfl
  refine pl_take (i := 2) 25 rfl rfl rfl (by kernel_rfl) (by kernel_rfl) (by kernel_rfl) (by simp [Act.put]) hS.out ?_
  apply Exists.intro
  refine And.intro (fun w' hS' => ?_) ?_
  · go_wp2
    first
      | exact ⟨trivial, rfl⟩
      | exact rfl
  refine pl_take (i := 3) 26 rfl rfl rfl (by kernel_rfl) (by kernel_rfl) (by kernel_rfl) (by simp [Act.put]) hS.out ?_
  apply Exists.intro
  refine And.intro (fun w' hS' => ?_) ?_
  · have hc := hS'.cell 1 _ rfl
    clear hS'
    go_wp2
    first
      | exact ⟨trivial, rfl⟩
      | exact rfl
  refine ord_share4 (F := fun (wz : World) (Gq : Nat) (ao : Option Addr) (co : Nat) => CB wz 37 Gq [.slice none 0 0, .slice none 0 0, .int .u64 0] ∧ w5.heap.size ≤ Gq ∧ wz.ownsRow w5.heap.size 46 33 (.slice ao K co) K (x.outs.flatMap outC) ∧ Below w5.heap.size w5 wz) ?pshare ?tree ?rest
  case tree =>
    intro HREST
    have HREST := Lib.hid HREST
    refine ord_two (i := 4) (j := 6) rfl rfl (by kernel_rfl) ?_ ?_
    · have BX : Below w5.heap.size w5 w5 := Below.refl _ _
      refine wpList_append_rd _ rfl _ (.tmp 26) 35 rfl w5.heap.size 46 i3 _ 33 40 Try.underlying35 HINO.out.1 HINO.out.2.1 HINO.out.2.2.1 HINO.out.2.2.2 (by rfl) (by decide) (.slice none 0 0) 0 [] rfl (World.ownsRow_nil _ _ _ _) (.slice a2 K c2) K (x.outs.flatMap outC) rfl (HRI.out.2.fresh (BB.out.tr BX)) (flat_one outC _ (fun z _ => outC_one z)) (by unfold maxLen; have := HFT.out.2.1; have := HNK.out.2.1; omega) (by have := HFT.out.2.1; have := HNK.out.2.1; omega) BX.size ?_
      intro v' w6 o' g' _ n'
      rw [Nat.zero_add, List.nil_append] at o'
      obtain ⟨ao, co, rfl⟩ := (Rd.of_own o').slice
      have b' := Below.grown (Below.refl w5.heap.size w5) g' (Nat.le_refl _) (fun j hj => by cases hj)
      have OO := Lib.hid o'
      have B6 := Lib.hid b'
      have hS6 := Lib.hid (hS.out.fresh b')
      clear BX o' g' n' b'
      go_wp2
      refine And.intro hS6.out ?_
      refine pl_takeB (i := 5) 28 rfl rfl rfl (by kernel_rfl) (by kernel_rfl) (by kernel_rfl) (by simp [Act.put]) hS6.out ?_
      apply Exists.intro
      refine And.intro (fun w' hS' => ?_) ?_
      · clear hS'
        go_wp2
        first
          | exact ⟨trivial, rfl⟩
          | exact rfl
      refine pl_heavy (i := 6) rfl (by kernel_rfl) ?_
      go_wp2
      obtain ⟨w7, h7, k7, b7, s7⟩ := alloc_cb w6 37 [.slice none 0 0, .slice none 0 0, .int .u64 0]
      have q := hS6.out.fresh b7
      refine And.intro (by rw [h7] at q; exact q) ?_
      change wpAnyH _ _ _ _ _ _ _ _ (World.alloc w6 (.cells [.slice none 0 0, .slice none 0 0, .int .u64 0].toArray 37))
      rw [← h7]
      have LQ : Hid (w5.heap.size ≤ w6.heap.size) := Lib.hid B6.out.size
      obtain ⟨Gq, hGq⟩ : ∃ g, g = w6.heap.size := ⟨_, rfl⟩
      rw [← hGq] at k7 LQ ⊢
      have Q := Lib.hid (And.intro k7 (And.intro LQ.out (And.intro (own_fresh OO.out b7) (B6.out.tr b7))))
      clear q h7 k7 b7 s7 hGq LQ
      exact HREST.out w7 Gq ao co Q.out
    · go_wp2
      obtain ⟨w7, h7, k7, b7, s7⟩ := alloc_cb w5 37 [.slice none 0 0, .slice none 0 0, .int .u64 0]
      have q := hS.out.fresh b7
      refine And.intro (by rw [h7] at q; exact q) ?_
      change wpAnyH _ _ _ _ _ _ _ _ (World.alloc w5 (.cells [.slice none 0 0, .slice none 0 0, .int .u64 0].toArray 37))
      rw [← h7]
      have hS7 := Lib.hid (hS.out.fresh b7)
      have B7 := Lib.hid b7
      obtain ⟨Gq, hGq⟩ : ∃ g, g = w5.heap.size := ⟨_, rfl⟩
      have LQ : Hid (w5.heap.size ≤ Gq) := Lib.hid (by rw [hGq]; exact Nat.le_refl _)
      rw [← hGq] at k7
      have K7 := Lib.hid k7
      rw [show (Value.pointer (some ⟨w5.heap.size, 0, none⟩)) = .pointer (some ⟨Gq, 0, none⟩) by rw [hGq]]
      clear q h7 k7 b7 s7 hGq
      refine pl_heavy (i := 4) rfl (by kernel_rfl) ?_
      have BX : Below w5.heap.size w5 w7 := B7.out
      refine wpList_append_rd _ rfl _ (.tmp 26) 35 rfl w5.heap.size 46 i3 _ 33 40 Try.underlying35 HINO.out.1 HINO.out.2.1 HINO.out.2.2.1 HINO.out.2.2.2 (by rfl) (by decide) (.slice none 0 0) 0 [] rfl (World.ownsRow_nil _ _ _ _) (.slice a2 K c2) K (x.outs.flatMap outC) rfl (HRI.out.2.fresh (BB.out.tr BX)) (flat_one outC _ (fun z _ => outC_one z)) (by unfold maxLen; have := HFT.out.2.1; have := HNK.out.2.1; omega) (by have := HFT.out.2.1; have := HNK.out.2.1; omega) BX.size ?_
      intro v' w6 o' g' _ n'
      rw [Nat.zero_add, List.nil_append] at o'
      obtain ⟨ao, co, rfl⟩ := (Rd.of_own o').slice
      have b' := Below.grown (Below.refl w7.heap.size w7) g' (Nat.le_refl _) (fun j hj => by cases hj)
      have hS6 := Lib.hid (hS7.out.fresh b')
      have Q := Lib.hid (And.intro (K7.out.fresh b') (And.intro LQ.out (And.intro o' (B7.out.tr b'))))
      clear BX o' g' n' b'
      go_wp2
      refine And.intro hS6.out ?_
      refine pl_takeB (i := 5) 28 rfl rfl rfl (by kernel_rfl) (by kernel_rfl) (by kernel_rfl) (by simp [Act.put]) hS6.out ?_
      apply Exists.intro
      refine And.intro (fun w' hS' => ?_) ?_
      · clear hS'
        go_wp2
        first
          | exact ⟨trivial, rfl⟩
          | exact rfl
      exact HREST.out w6 Gq ao co Q.out
  case rest =>
    rintro wz Gq ao co ⟨kz, lg, oo, bz⟩
    have hSz := Lib.hid (hS.out.fresh bz)
    have LG : Hid (w.heap.size + 1 < Gq) := Lib.hid (by have := K2.out.lt; omega)
    refine pl_heavy (i := 7) rfl (by kernel_rfl) ?_
    refine wpList_store_var rfl 37 (.tmp 7) (.tmp 28) rfl Gq _ rfl _ [.slice none 0 0, .slice ao K co, .int .u64 x.nonce] rfl kz (by simp) (by intro u hu; simp at hu; rcases hu with rfl | rfl | rfl <;> rfl) (by exact infoTx) ?_
    intro wy ky oy
    obtain ⟨G0, hG0⟩ : ∃ G0, w5.heap.size = G0 + 1 := ⟨w5.heap.size - 1, by have := K2.out.lt; omega⟩
    have LG0 : Hid (w.heap.size + 1 ≤ G0 ∧ G0 + 1 ≤ Gq) := Lib.hid ⟨by have := K2.out.lt; omega, by rw [← hG0]; exact lg⟩
    have KO : Hid (CB wy 37 Gq [.slice none 0 0, .slice ao K co, .int .u64 x.nonce]) := Lib.hid ky
    have OO : Hid (wy.ownsRow (G0 + 1) 46 33 (.slice ao K co) K (x.outs.flatMap outC)) := Lib.hid (by rw [← hG0]; exact own_onlyT oo oy (cb_ne oo kz (by decide)))
    have K1 := Lib.hid (hSz.out.only oy (by have := LG.out; omega))
    replace K2 := Lib.hid ((K2.out.fresh bz).only oy (by have := LG.out; omega))
    replace BB : Hid (Below w.heap.size w wy) := Lib.hid (Below.only (BB.out.tr bz) oy (by have := LG.out; omega))
    clear kz lg oo bz hSz ky oy hG0 hS
    go_wp2
    refine And.intro K1.out ?_
    refine pl_done (by kernel_rfl) ?_
    go_wp2
    go_loopw [8] (fun v8 wr => Below w.heap.size w wr ∧ CB wr 37 w.heap.size [.slice a0 N c0, .slice a2 K c2, .int .u64 x.nonce] ∧ CB wr 37 (w.heap.size + 1) [.slice a1 M c1, .slice a3 L c3, .int .u64 y.nonce] ∧ wr.ownsRow (G0 + 1) 46 33 (.slice ao K co) K (x.outs.flatMap outC) ∧ ∃ (k : Nat) (vs : List Value) (ai : Option Addr) (ci : Nat), k ≤ N ∧ v8 = .int .i64 (k : Int) ∧ CB wr 37 Gq [.slice ai k ci, .slice ao K co, .int .u64 x.nonce] ∧ OwX vs (G0 + 1) wr (.slice ai k ci) (x.ins.take k))
      (fun v _ => N - (RowKit.intOf v).toNat)
    case atStart => exact ⟨BB.out, K1.out, K2.out, OO.out, 0, [], none, 0, Nat.zero_le _, rfl, KO.out, rfl, World.ownsRow_nil _ _ _ _, fun i x u h => by simp at h, DisV.nil⟩
    case round =>
      clear KO
      obtain ⟨hb, hk1, hk2, hoo, k, vs, ai, ci, hk, rfl, hko, hox⟩ := hrel
      replace BB := Lib.hid hb
      replace K1 := Lib.hid hk1
      replace K2 := Lib.hid hk2
      replace OO := Lib.hid hoo
      have KO := Lib.hid hko
      have OX := Lib.hid hox
      clear hb hk1 hk2 hoo hko hox
      have hc0 := K1.out.cell 0 _ rfl
      by_cases hlt : k < N
      · obtain ⟨xk, hx⟩ : ∃ z, x.ins[k]? = some z := ⟨_, List.getElem?_eq_getElem (by rw [← HNK.out.1]; exact hlt)⟩
        obtain ⟨ux, hux⟩ : ∃ z, us[k]? = some z := ⟨_, List.getElem?_eq_getElem (by rw [HEI.out.1]; exact hlt)⟩
        obtain ⟨ad, c, he⟩ := rd_some HRI.out.1 (by omega)
        simp only [Value.slice.injEq, true_and] at he
        obtain ⟨rfl, rfl⟩ := he
        have hz : (x.ins.zip us)[k]? = some (xk, ux) := by rw [List.getElem?_zip_eq_some]; exact ⟨hx, hux⟩
        have hrw := (HEI.out.2 k xk ux hx hux).1
        obtain ⟨ax, cx, rfl⟩ := hrw.slice
        have HRW := Lib.hid (hrw.fresh BB.out)
        have hwl := HFT.out.2.2 xk (List.mem_of_getElem? hx)
        have HX := Lib.hid (And.intro hx (And.intro (HNK.out.2.2.1 xk (List.mem_of_getElem? hx)) (And.intro hwl hz)))
        have HZL : Hid (∀ z ∈ x.ins.zip us, (inC z).length = 34) := Lib.hid (fun z hz => inC_length (HNK.out.2.2.1 _ (List.of_mem_zip hz).1))
        have hS : Hid (CB wr.drew 37 w.heap.size [.slice (some ad) N c0, .slice a2 K c2, .int .u64 x.nonce] ∧ CB wr.drew 37 Gq [.slice ai k ci, .slice ao K co, .int .u64 x.nonce] ∧ Rd wr.drew 34 (.slice (some ad) N c0) N ((x.ins.zip us).flatMap inC)) := Lib.hid ⟨K1.out.drew, KO.out.drew, HRI.out.1.fresh BB.out.drew⟩
        have ik : (k : Int) < (N : Int) := by omega
        have HK := Lib.hid hlt
        clear hx hux hz hrw hwl hlt hk
        go_wp2_with fail
        clear hc0
        refine pf_start 20 rfl (fun w' => CB w' 37 w.heap.size [.slice (some ad) N c0, .slice a2 K c2, .int .u64 x.nonce] ∧ CB w' 37 Gq [.slice ai k ci, .slice ao K co, .int .u64 x.nonce] ∧ Rd w' 34 (.slice (some ad) N c0) N ((x.ins.zip us).flatMap inC)) (fun i => i == 19) (by kernel_rfl) ?_
        refine pf_take (i := 0) 36 rfl rfl rfl (by kernel_rfl) (by kernel_rfl) (by kernel_rfl) (by kernel_rfl) (by kernel_rfl) (by simp [Act.put]) hS.out ?_
        apply Exists.intro
        refine And.intro (fun w' hS' => ?_) ?_
        · clear hS'
          go_wp2
          first
            | exact ⟨trivial, rfl⟩
            | exact rfl
        refine pf_take (i := 1) 37 rfl rfl rfl (by kernel_rfl) (by kernel_rfl) (by kernel_rfl) (by kernel_rfl) (by kernel_rfl) (by simp [Act.put]) hS.out ?_
        apply Exists.intro
        refine And.intro (fun w' hS' => ?_) ?_
        · have hc := hS'.2.1.cell 0 _ rfl
          clear hS'
          go_wp2
          first
            | exact ⟨trivial, rfl⟩
            | exact rfl
        refine pf_take (i := 2) 38 rfl rfl rfl (by kernel_rfl) (by kernel_rfl) (by kernel_rfl) (by kernel_rfl) (by kernel_rfl) (by simp [Act.put]) hS.out ?_
        apply Exists.intro
        refine And.intro (fun w' hS' => ?_) ?_
        · clear hS'
          go_wp2
          first
            | exact ⟨trivial, rfl⟩
            | exact rfl
        refine pf_take (i := 3) 39 rfl rfl rfl (by kernel_rfl) (by kernel_rfl) (by kernel_rfl) (by kernel_rfl) (by kernel_rfl) (by simp [Act.put]) hS.out ?_
        apply Exists.intro
        refine And.intro (fun w' hS' => ?_) ?_
        · have hc := hS'.1.cell 0 _ rfl
          clear hS'
          go_wp2
          first
            | exact ⟨trivial, rfl⟩
            | exact rfl
        refine pf_take (i := 4) 40 rfl rfl rfl (by kernel_rfl) (by kernel_rfl) (by kernel_rfl) (by kernel_rfl) (by kernel_rfl) (by simp [Act.put]) hS.out ?_
        apply Exists.intro
        refine And.intro (fun w' hS' => ?_) ?_
        · clear hS'
          go_wp2
          first
            | exact ⟨trivial, rfl⟩
            | exact rfl
        refine pf_take (i := 5) 41 rfl rfl rfl (by kernel_rfl) (by kernel_rfl) (by kernel_rfl) (by kernel_rfl) (by kernel_rfl) (by simp [Act.put]) hS.out ?_
        apply Exists.intro
        refine And.intro (fun w' hS' => ?_) ?_
        · clear hS'
          go_wp2
          first
            | exact ⟨trivial, rfl⟩
            | exact rfl
        refine pf_take (i := 6) 42 rfl rfl rfl (by kernel_rfl) (by kernel_rfl) (by kernel_rfl) (by kernel_rfl) (by kernel_rfl) (by simp [Act.put]) hS.out ?_
        apply Exists.intro
        refine And.intro (fun w' hS' => ?_) ?_
        · clear hS'
          go_wp2
          first
            | exact ⟨trivial, rfl⟩
            | exact rfl
        refine pf_take (i := 7) 43 rfl rfl rfl (by kernel_rfl) (by kernel_rfl) (by kernel_rfl) (by kernel_rfl) (by kernel_rfl) (by simp [Act.put]) hS.out ?_
        apply Exists.intro
        refine And.intro (fun w' hS' => ?_) ?_
        · refine wpList_load_agg rfl 41 (.tmp 42) rfl (ad.add (k * 34)) rfl (ptC xk) _ (in_pt (hS'.2.2.at HZL.out HX.out.2.2.2)) Try.underlying41 rfl (by rw [ptC_length HX.out.2.1]; exact infoPt) ?_
          clear hS'
          go_wp2
          exact ⟨trivial, rfl⟩
        refine pf_take (i := 8) 44 rfl rfl rfl (by kernel_rfl) (by kernel_rfl) (by kernel_rfl) (by kernel_rfl) (by kernel_rfl) (by simp [Act.put]) hS.out ?_
        apply Exists.intro
        refine And.intro (fun w' hS' => ?_) ?_
        · clear hS'
          go_wp2
          first
            | exact ⟨trivial, rfl⟩
            | exact rfl
        refine pf_take (i := 9) 45 rfl rfl rfl (by kernel_rfl) (by kernel_rfl) (by kernel_rfl) (by kernel_rfl) (by kernel_rfl) (by simp [Act.put]) hS.out ?_
        apply Exists.intro
        refine And.intro (fun w' hS' => ?_) ?_
        · have hc := hS'.1.cell 0 _ rfl
          clear hS'
          go_wp2
          first
            | exact ⟨trivial, rfl⟩
            | exact rfl
        refine pf_take (i := 10) 46 rfl rfl rfl (by kernel_rfl) (by kernel_rfl) (by kernel_rfl) (by kernel_rfl) (by kernel_rfl) (by simp [Act.put]) hS.out ?_
        apply Exists.intro
        refine And.intro (fun w' hS' => ?_) ?_
        · clear hS'
          go_wp2
          first
            | exact ⟨trivial, rfl⟩
            | exact rfl
        refine pf_take (i := 11) 47 rfl rfl rfl (by kernel_rfl) (by kernel_rfl) (by kernel_rfl) (by kernel_rfl) (by kernel_rfl) (by simp [Act.put]) hS.out ?_
        apply Exists.intro
        refine And.intro (fun w' hS' => ?_) ?_
        · clear hS'
          go_wp2
          first
            | exact ⟨trivial, rfl⟩
            | exact rfl
        refine pf_take (i := 12) 48 rfl rfl rfl (by kernel_rfl) (by kernel_rfl) (by kernel_rfl) (by kernel_rfl) (by kernel_rfl) (by simp [Act.put]) hS.out ?_
        apply Exists.intro
        refine And.intro (fun w' hS' => ?_) ?_
        · clear hS'
          go_wp2
          first
            | exact ⟨trivial, rfl⟩
            | exact rfl
        refine pf_take (i := 13) 49 rfl rfl rfl (by kernel_rfl) (by kernel_rfl) (by kernel_rfl) (by kernel_rfl) (by kernel_rfl) (by simp [Act.put]) hS.out ?_
        apply Exists.intro
        refine And.intro (fun w' hS' => ?_) ?_
        · have hc := in_wit (hS'.2.2.at HZL.out HX.out.2.2.2) HX.out.2.1
          clear hS'
          go_wp2
          first
            | exact ⟨trivial, rfl⟩
            | exact rfl
        obtain ⟨wd, hwd⟩ : ∃ wd, wd = wr.drew := ⟨_, rfl⟩
        have BD : Hid (Below wr.heap.size wr wd) := Lib.hid (by rw [hwd]; exact (Below.refl _ _).drew)
        rw [← hwd] at hS ⊢
        clear hwd
        refine pf_heavy (i := 14) rfl (by kernel_rfl) ?_
        refine wpList_append_rd _ rfl _ (.tmp 49) 42 rfl wr.heap.size 5 i1 (.int .u8 0) 1 1 Try.underlying42 HINB.out.1 HINB.out.2.1 HINB.out.2.2.1 HINB.out.2.2.2 rfl (by decide) (.slice none 0 0) 0 [] rfl (World.ownsRow_nil _ _ _ _) (.slice ax xk.wit.length cx) xk.wit.length (bvs xk.wit) rfl (HRW.out.fresh BD.out) (bvs_one _) (by unfold maxLen; have := HX.out.2.2.1; omega) (by have := HX.out.2.2.1; omega) BD.out.size ?_
        intro v' w6 o' g' _ n'
        rw [Nat.zero_add, List.nil_append] at o'
        obtain ⟨av, cv, rfl⟩ := (Rd.of_own o').slice
        have b' := Below.grown (Below.refl wd.heap.size wd) g' (Nat.le_refl _) (fun j hj => by cases hj)
        have OV := Lib.hid o'
        have B6 := Lib.hid (BD.out.tr b')
        have hS6 := Lib.hid (And.intro (hS.out.1.fresh b') (And.intro (hS.out.2.1.fresh b') (hS.out.2.2.fresh b')))
        obtain ⟨m, hm⟩ : ∃ m, m = xk.wit.length := ⟨_, rfl⟩
        rw [← hm]
        have Hm := Lib.hid hm
        clear o' g' n' b' hm
        go_wp2
        refine And.intro hS6.out ?_
        refine pf_heavy (i := 15) rfl (by kernel_rfl) ?_
        refine wpList_buildQ rfl _ _ rfl #[(0, .agg (ptC xk).toArray), (1, .slice av m cv)] (.agg (inC (xk, .slice av m cv)).toArray) (by kernel_rfl) (build_input w6 xk HX.out.2.1 av m cv) ?_
        go_wp2
        refine And.intro hS6.out ?_
        refine pf_heavy (i := 16) rfl (by kernel_rfl) ?_
        refine wpList_buildR rfl 34 44 1 _ rfl Try.underlying34 34 _ infoZIn (by decide) (by decide) (by decide) [inC (xk, .slice av m cv)] (by intro c hc; simp at hc; subst hc; exact inC_length HX.out.2.1) rfl (by kernel_rfl) ?_
        intro w7 r7 b7 s7
        have R7 : Hid (Rd w7 34 (.slice (some ⟨w6.heap.size, 0, none⟩) 1 1) 1 (inC (xk, .slice av m cv))) := Lib.hid (by simpa using r7)
        obtain ⟨G7, hG7⟩ : ∃ g, g = w6.heap.size := ⟨_, rfl⟩
        rw [← hG7] at R7 ⊢
        replace OV := Lib.hid (own_fresh OV.out b7)
        have B7 := Lib.hid (B6.out.tr b7)
        have hS7 := Lib.hid (And.intro (hS6.out.1.fresh b7) (And.intro (hS6.out.2.1.fresh b7) (hS6.out.2.2.fresh b7)))
        clear r7 b7 s7 hG7 hS6 B6
        go_wp2
        refine And.intro hS7.out ?_
        refine pf_heavy (i := 17) rfl (by kernel_rfl) ?_
        refine wpList_append_rd _ rfl (.tmp 37) (.tmp 52) 34 rfl (G0 + 1) 44 i2 _ 34 64 Try.underlying34 HINI.out.1 HINI.out.2.1 HINI.out.2.2.1 HINI.out.2.2.2 (by rfl) (by decide) (.slice ai k ci) k _ rfl (by have h := own_fresh OX.out.2.1 B7.out; rw [List.length_take, Nat.min_eq_left (by have := HK.out; have := HNK.out.1; omega)] at h; exact h) (.slice (some ⟨G7, 0, none⟩) 1 1) 1 _ rfl R7.out (inC_one xk _ rfl) (by unfold maxLen; have := HK.out; have := HNK.out.1; have := HFT.out.1; omega) (by have := HK.out; have := HNK.out.1; have := HFT.out.1; omega) (by have := KO.out.lt; have := B7.out.size; have := LG0.out; omega) ?_
        intro v8 w8 o8 g8 _ gr8
        obtain ⟨a8, c8, rfl⟩ := (Rd.of_own o8).slice
        have hrow : ∀ b, (Value.slice ai k ci).ownBlock = some b → G0 + 1 ≤ b ∧ b < wr.heap.size := fun b hb => OX.out.2.1.lt b hb
        have Q1 := Lib.hid ((BB.out.tr B7.out).grown g8 (BB.out.tr B7.out).size (fun j hj => by have := hrow j hj; have := LG0.out; omega))
        have Q2 := Lib.hid ((K1.out.fresh B7.out).grownT g8 (fun e => by have := hrow _ e; have := LG0.out; omega))
        have Q3 := Lib.hid ((K2.out.fresh B7.out).grownT g8 (fun e => by have := hrow _ e; have := LG0.out; omega))
        have Q4 := Lib.hid ((KO.out.fresh B7.out).grownT g8 (cb_ne OX.out.2.1 KO.out (by decide)))
        have Q5 := Lib.hid (own_grownT (own_fresh OO.out B7.out) g8 (fun b hb => own_type OO.out OX.out.2.1 (by decide) hb))
        have hkl : (x.ins.take k).length = k := by rw [List.length_take, Nat.min_eq_left (by have := HK.out; have := HNK.out.1; omega)]
        have Q6 : Hid (OwX (vs ++ [.slice av m cv]) (G0 + 1) w8 (.slice a8 (k + 1) c8) (x.ins.take (k + 1))) := Lib.hid (by
          rw [List.take_add_one, HX.out.1]
          change OwX _ (G0 + 1) w8 _ (x.ins.take k ++ [xk])
          refine OwX.grow OX.out B7.out (by have := KO.out.lt; have := LG0.out; omega) (by rw [Hm.out]; exact Hm.out ▸ OV.out) g8 (by rw [hkl]; exact o8))
        have hSf := Lib.hid (And.intro Q2.out (And.intro Q4.out (HRI.out.1.fresh Q1.out)))
        clear o8 g8 gr8 hrow hkl OX OO K1 K2 KO BB OV B7 hS hS7
        go_wp2
        refine And.intro hSf.out ?_
        refine pf_take (i := 18) 54 rfl rfl rfl (by kernel_rfl) (by kernel_rfl) (by kernel_rfl) (by kernel_rfl) (by kernel_rfl) (by simp [Act.put]) hSf.out ?_
        apply Exists.intro
        refine And.intro (fun w' hS' => ?_) ?_
        · clear hS'
          go_wp2
          first
            | exact ⟨trivial, rfl⟩
            | exact rfl
        refine pf_last (i := 19) rfl (by kernel_rfl) (by kernel_rfl) ?_
        have hf8 : w8.frozen? ⟨Gq, 0, none⟩ = false := frozen_of_row w8 Gq 0 _ _ Q4.out
        have hc8 : w8.cell? ⟨Gq, 0, none⟩ = some (.slice ai k ci) := Q4.out.cell 0 _ rfl
        go_wp2
        obtain ⟨w9, hw9⟩ : ∃ w9, w9 = w8.setCell ⟨Gq, 0, none⟩ (.slice a8 (k + 1) c8) := ⟨_, rfl⟩
        rw [← hw9]
        have oz : Only Gq w8 w9 := by rw [hw9]; exact Only.setCell w8 Gq 0 _
        have kz := Q4.out.set 0 (.slice a8 (k + 1) c8)
        rw [← hw9] at kz
        have T1 := Lib.hid (Below.only Q1.out oz (by have := LG.out; omega))
        have T2 := Lib.hid (Q2.out.only oz (by have := LG.out; omega))
        have T3 := Lib.hid (Q3.out.only oz (by have := LG.out; omega))
        have T4 : Hid (CB w9 37 Gq [.slice a8 (k + 1) c8, .slice ao K co, .int .u64 x.nonce]) := Lib.hid kz
        have T5 := Lib.hid (own_onlyT Q5.out oz (cb_ne Q5.out Q4.out (by decide)))
        have T6 := Lib.hid (Q6.out.cb Q4.out oz)
        clear hf8 hc8 oz kz hw9 Q1 Q2 Q3 Q4 Q5 Q6 hSf
        refine pf_done (by kernel_rfl) ?_
        go_wp2
        go_roundw
        case rel => exact ⟨T1.out, T2.out, T3.out, T5.out, k + 1, _, a8, c8, HK.out, by go_num, T4.out, T6.out⟩
        case measure => simp only [RowKit.intOf]; have := HK.out; omega
      · have ik : ¬ ((k : Int) < (N : Int)) := by omega
        have hkN : k = N := by omega
        subst hkN
        have htk : x.ins.take k = x.ins := List.take_of_length_le (by rw [← HNK.out.1]; exact Nat.le_refl _)
        rw [htk] at OX
        clear hlt hk htk
        go_wp2_with (with_reducible refine stopAt 55 ?_)
        refine Stop.go ?_
        clear hc0 ik
        refine wpList_load_agg rfl 37 (.tmp 7) rfl ⟨Gq, 0, none⟩ rfl [.slice ai k ci, .slice ao K co, .int .u64 x.nonce] _ (At.block KO.out).load Try.underlying37 rfl (by exact infoTx) ?_
        go_wp2_with fail
        refine (txcopy_any (fun _ => True) wr x (.slice ai k ci, .slice ao K co) ⟨OX.out.ins HNK.out.2.2.1, HNK.out.2.2.2, ⟨by have h := Rd.of_own OO.out; rw [← HNK.out.2.1]; exact h, fun _ _ => trivial⟩⟩ HFT.out).mono ?_
        rintro e w10 ⟨⟨v1, v2⟩, rfl, hv1, hv2, b10⟩
        obtain ⟨aq, cq, e⟩ := hv1.slice
        change v1 = _ at e
        rw [← HNK.out.1] at e
        subst e
        obtain ⟨ar, cr, e⟩ := hv2.slice
        change v2 = _ at e
        rw [← HNK.out.2.1] at e
        subst e
        rw [show (txC (x, (Value.slice aq k cq, Value.slice ar K cr))).toArray = #[Value.slice aq k cq, Value.slice ar K cr, .int .u64 x.nonce] from rfl]
        go_wp2_with (with_reducible refine stopStore 37 ?_)
        refine Stop.go ?_
        refine wpList_store_var rfl 37 (.tmp 9) (.tmp 56) rfl w10.heap.size _ rfl _ [.slice aq k cq, .slice ar K cr, .int .u64 x.nonce] rfl (heap_alloc_new w10 _) (by rfl) (by intro u hu; simp at hu; rcases hu with rfl | rfl | rfl <;> rfl) (by exact infoTx) ?_
        intro wc k11 o11
        have b11 : Below w10.heap.size w10 wc := Below.only ((Below.refl _ w10).alloc (Nat.le_refl _) _) o11 (Nat.le_refl _)
        obtain ⟨G8, hG8⟩ : ∃ g, g = w10.heap.size := ⟨_, rfl⟩
        rw [← hG8] at k11 ⊢
        have bc := b10.tr b11
        have K1c := Lib.hid (K1.out.fresh bc)
        have K2c := Lib.hid (K2.out.fresh bc)
        have KOc := Lib.hid (KO.out.fresh bc)
        have KC : Hid (CB wc 37 G8 [.slice aq k cq, .slice ar K cr, .int .u64 x.nonce]) := Lib.hid k11
        have BBc := Lib.hid (BB.out.tr bc)
        obtain ⟨S1, hS1⟩ : ∃ s, s = wr.heap.size := ⟨_, rfl⟩
        have LTc := Lib.hid (OX.out.lt' OO.out)
        have HC : Hid (Ins (fun b => wr.heap.size ≤ b) wc (.slice aq k cq) x.ins ∧ Outs (fun b => wr.heap.size ≤ b) wc (.slice ar K cr) x.outs) := Lib.hid ⟨(hv1.mono (fun b hb => hb.1)).fresh b11, (hv2.mono (fun b hb => hb.1)).fresh b11⟩
        have LG8 : Hid (S1 ≤ G8) := Lib.hid (by rw [hS1, hG8]; exact b10.size)
        rw [← hS1] at LTc HC
        have TI0 : Hid (TJ vs G0 S1 (.slice ai k ci) (.slice ao K co) k K wc wc) := Lib.hid ⟨Trn.refl _ _ _, by
          have h := (OX.out.fresh bc).wk HNK.out.2.2.1
          rwa [← HNK.out.1] at h, by
          have h := OwO.wk' (l := x.outs) (base := G0 + 1) (w := wc) (v := .slice ao K co) (by unfold OwO; rw [← HNK.out.2.1]; exact own_fresh OO.out bc) HNK.out.2.2.2
          rwa [← HNK.out.2.1] at h⟩
        clear hv1 hv2 b10 b11 bc k11 o11 hG8 hS1 K1 K2 KO BB OX OO HINO HINI HINB
        have hcc := KOc.out.cell 0 _ rfl
        go_wp2
        clear hcc
        go_loopw [10] (fun v10 wr => TJ vs G0 S1 (.slice ai k ci) (.slice ao K co) k K wc wr ∧ CB wr 37 Gq [.slice ai k ci, .slice ao K co, .int .u64 x.nonce] ∧ ∃ i : Nat, i ≤ k ∧ v10 = .int .i64 (i : Int))
          (fun v _ => k - (RowKit.intOf v).toNat)
        case atStart => exact ⟨TI0.out, KOc.out, 0, Nat.zero_le _, rfl⟩
        case round =>
          obtain ⟨hti, hko, i, hi, rfl⟩ := hrel
          have T := Lib.hid hti
          have KO := Lib.hid hko
          clear hti hko
          have hcg := KO.out.cell 0 _ rfl
          by_cases hlt : i < k
          · obtain ⟨ux, hux⟩ : ∃ z, vs[i]? = some z := ⟨_, List.getElem?_eq_getElem (by rw [T.out.2.1.1]; exact hlt)⟩
            obtain ⟨g, c, z, he, hfz, hcn, hcw⟩ := T.out.inp hlt hux
            simp only [Value.slice.injEq, true_and] at he
            obtain ⟨rfl, rfl⟩ := he
            obtain ⟨aW, mW, cW, rfl⟩ := T.out.witS hux
            have bW := (T.out.wit hux).1
            have HU := Lib.hid hux
            have HK := Lib.hid hlt
            have ii : (i : Int) < (k : Int) := by omega
            have hfn := hfz (i * 34 + 32)
            clear hux hlt hi hfz hcw
            have hgq : Gq ≠ g := fun e => T.out.2.1.2.1.ne_cb KO.out (by decide) (by rw [e]; rfl)
            have HG := Lib.hid hgq
            clear hgq
            go_wp2
            clear hcg hcn hfn
            go_loopw [11] (fun v11 wr => TJ vs G0 S1 (.slice (some ⟨g, 0, none⟩) k ci) (.slice ao K co) k K wc wr ∧ CB wr 37 Gq [.slice (some ⟨g, 0, none⟩) k ci, .slice ao K co, .int .u64 x.nonce] ∧ ∃ q : Nat, q ≤ mW ∧ v11 = .int .i64 (q : Int))
              (fun v _ => mW - (RowKit.intOf v).toNat)
            case atStart => exact ⟨T.out.setN LTc.out _ _, KO.out.only (Only.setCell _ _ _ _) HG.out, 0, Nat.zero_le _, rfl⟩
            case round =>
              clear T KO
              obtain ⟨hti, hko, q, hq, rfl⟩ := hrel
              have T := Lib.hid hti
              have KO := Lib.hid hko
              clear hti hko
              have hcg := KO.out.cell 0 _ rfl
              obtain ⟨_, _, z2, he, _, _, hcw⟩ := T.out.inp HK.out HU.out
              simp only [Value.slice.injEq, true_and, Option.some.injEq, Addr.mk.injEq] at he
              obtain ⟨⟨rfl, _⟩, rfl⟩ := he
              by_cases hlt : q < mW
              · have iq : (q : Int) < (mW : Int) := by omega
                obtain ⟨gW, zW, rfl, hfW, hcW⟩ := (T.out.wit HU.out).2 q hlt
                have HQ := Lib.hid hlt
                have hgw : Gq ≠ gW := fun e => by
                  obtain ⟨mm', hmm'⟩ := T.out.2.1.2.2.1 i _ HU.out
                  exact hmm'.ne_cb KO.out (by decide) (by rw [e]; rfl)
                have HGW := Lib.hid hgw
                clear hlt hq hgw
                go_wp2
                clear hcg hcw hfW hcW
                go_roundw
                case rel => exact ⟨T.out.setW LTc.out HU.out _ _, KO.out.only (Only.setCell _ _ _ _) HGW.out, q + 1, HQ.out, by go_num⟩
                case measure => simp only [RowKit.intOf]; have := HQ.out; omega
              · have iq : ¬ ((q : Int) < (mW : Int)) := by omega
                clear hlt hq
                go_wp2
                clear hcg hcw
                go_roundw
                case rel => exact ⟨T.out, KO.out, i + 1, HK.out, by go_num⟩
                case measure => simp only [RowKit.intOf]; have := HK.out; omega
          · have ii : ¬ ((i : Int) < (k : Int)) := by omega
            clear hlt hi TI0 KOc
            have hcg1 := KO.out.cell 1 _ rfl
            go_wp2
            clear hcg hcg1
            go_loopw [12] (fun v12 wr => TJ vs G0 S1 (.slice ai k ci) (.slice ao K co) k K wc wr ∧ CB wr 37 Gq [.slice ai k ci, .slice ao K co, .int .u64 x.nonce] ∧ ∃ q : Nat, q ≤ K ∧ v12 = .int .i64 (q : Int))
              (fun v _ => K - (RowKit.intOf v).toNat)
            case atStart => exact ⟨T.out, KO.out, 0, Nat.zero_le _, rfl⟩
            case round =>
              clear T KO
              obtain ⟨hti, hko, q, hq, rfl⟩ := hrel
              have T := Lib.hid hti
              have KO := Lib.hid hko
              clear hti hko
              have hcg := KO.out.cell 1 _ rfl
              by_cases hlt : q < K
              · have iq : (q : Int) < (K : Int) := by omega
                obtain ⟨gO, cO, zO, he, hfO, hcO⟩ := T.out.out hlt
                simp only [Value.slice.injEq, true_and] at he
                obtain ⟨rfl, rfl⟩ := he
                have HQ := Lib.hid hlt
                have hgo' : Gq ≠ gO := fun e => T.out.2.2.ne_cb KO.out (by decide) (by rw [e]; rfl)
                have HGO := Lib.hid hgo'
                clear hlt hq hgo'
                go_wp2
                clear hcg hfO hcO
                go_roundw
                case rel => exact ⟨T.out.setA LTc.out _ _, KO.out.only (Only.setCell _ _ _ _) HGO.out, q + 1, HQ.out, by go_num⟩
                case measure => simp only [RowKit.intOf]; have := HQ.out; omega
              · have iq : ¬ ((q : Int) < (K : Int)) := by omega
                clear hlt hq
                go_wp2_with fail
                clear hcg iq
                have BW : Hid (Below w.heap.size w wr.drew) := Lib.hid ((BBc.out.trans (T.out.1.1.mono (by have := LG0.out; omega))).drew)
                have hS : Hid (CB wr.drew 37 w.heap.size [.slice a0 k c0, .slice a2 K c2, .int .u64 x.nonce] ∧ CB wr.drew 37 (w.heap.size + 1) [.slice a1 M c1, .slice a3 L c3, .int .u64 y.nonce] ∧ CB wr.drew 37 G8 [.slice aq k cq, .slice ar K cr, .int .u64 x.nonce]) := Lib.hid ⟨T.out.drew.1.cb K1c.out (.inl (by have := LG0.out; omega)), T.out.drew.1.cb K2c.out (.inl (by have := LG0.out; omega)), T.out.drew.1.cb KC.out (.inr LG8.out)⟩
                have HCw := Lib.hid (And.intro (HC.out.1.kept T.out.drew.1.kp) (HC.out.2.kept T.out.drew.1.kp))
                obtain ⟨wd, hwd⟩ : ∃ wd, wd = wr.drew := ⟨_, rfl⟩
                refine pl_start 44 rfl (fun w' => CB w' 37 w.heap.size [.slice a0 k c0, .slice a2 K c2, .int .u64 x.nonce] ∧ CB w' 37 (w.heap.size + 1) [.slice a1 M c1, .slice a3 L c3, .int .u64 y.nonce] ∧ CB w' 37 G8 [.slice aq k cq, .slice ar K cr, .int .u64 x.nonce]) (by kernel_rfl) ?_
                rw [← hwd] at hS BW HCw ⊢
                clear hwd T KO HC K1c K2c KC BBc
                refine pl_take (i := 0) 113 rfl rfl rfl (by kernel_rfl) (by kernel_rfl) (by kernel_rfl) (by simp [Act.put]) hS.out ?_
                apply Exists.intro
                refine And.intro (fun w' hS' => ?_) ?_
                · skip
                  refine wpList_load_agg rfl 37 (.tmp 9) rfl ⟨G8, 0, none⟩ rfl _ _ (At.block hS'.2.2).load Try.underlying37 rfl (by exact infoTx) ?_
                  clear hS'
                  go_wp2
                  first
                    | exact ⟨trivial, rfl⟩
                    | exact rfl
                refine pl_take (i := 1) 114 rfl rfl rfl (by kernel_rfl) (by kernel_rfl) (by kernel_rfl) (by simp [Act.put]) hS.out ?_
                apply Exists.intro
                refine And.intro (fun w' hS' => ?_) ?_
                · skip
                  refine wpList_load_agg rfl 37 (.tmp 3) rfl ⟨w.heap.size, 0, none⟩ rfl _ _ (At.block hS'.1).load Try.underlying37 rfl (by exact infoTx) ?_
                  clear hS'
                  go_wp2
                  first
                    | exact ⟨trivial, rfl⟩
                    | exact rfl
                have C := rsame_any (fun b => S1 ≤ b) F wd x x (.slice aq k cq, .slice ar K cr) (.slice a0 k c0, .slice a2 K c2) ⟨HCw.out.1, HCw.out.2⟩ ⟨HI.out.fresh BW.out, HO.out.fresh BW.out⟩
                rw [decide_eq_true rfl] at C
                replace C := Lib.hid C
                refine pl_heavy (i := 2) rfl (by kernel_rfl) ?_
                skip
                go_wp2_with fail
                refine (C.out).mono ?_
                rintro e wa ⟨rfl, bq⟩
                replace hS := Lib.hid (And.intro (hS.out.1.fresh bq) (And.intro (hS.out.2.1.fresh bq) (hS.out.2.2.fresh bq)))
                have BWa := Lib.hid (BW.out.tr bq)
                clear bq
                go_wp2
                refine And.intro hS.out ?_
                clear C
                refine pl_take (i := 3) 116 rfl rfl rfl (by kernel_rfl) (by kernel_rfl) (by kernel_rfl) (by simp [Act.put]) hS.out ?_
                apply Exists.intro
                refine And.intro (fun w' hS' => ?_) ?_
                · go_wp2
                  first
                    | exact ⟨trivial, rfl⟩
                    | exact rfl
                refine pl_take (i := 4) 117 rfl rfl rfl (by kernel_rfl) (by kernel_rfl) (by kernel_rfl) (by simp [Act.put]) hS.out ?_
                apply Exists.intro
                refine And.intro (fun w' hS' => ?_) ?_
                · refine wpList_unguard' rfl ?_
                  refine wpList_load_agg rfl 37 (.tmp 3) rfl ⟨w.heap.size, 0, none⟩ rfl _ _ (At.block hS'.1).load Try.underlying37 rfl (by exact infoTx) ?_
                  clear hS'
                  go_wp2
                  first
                    | exact ⟨trivial, rfl⟩
                    | exact rfl
                refine pl_take (i := 5) 118 rfl rfl rfl (by kernel_rfl) (by kernel_rfl) (by kernel_rfl) (by simp [Act.put]) hS.out ?_
                apply Exists.intro
                refine And.intro (fun w' hS' => ?_) ?_
                · refine wpList_unguard' rfl ?_
                  refine wpList_load_agg rfl 37 (.tmp 4) rfl ⟨w.heap.size + 1, 0, none⟩ rfl _ _ (At.block hS'.2.1).load Try.underlying37 rfl (by exact infoTx) ?_
                  clear hS'
                  go_wp2
                  first
                    | exact ⟨trivial, rfl⟩
                    | exact rfl
                refine pl_take (i := 7) 120 rfl rfl rfl (by kernel_rfl) (by kernel_rfl) (by kernel_rfl) (by simp [Act.put]) hS.out ?_
                apply Exists.intro
                refine And.intro (fun w' hS' => ?_) ?_
                · refine wpList_unguard' rfl ?_
                  refine wpList_load_agg rfl 37 (.tmp 3) rfl ⟨w.heap.size, 0, none⟩ rfl _ _ (At.block hS'.1).load Try.underlying37 rfl (by exact infoTx) ?_
                  clear hS'
                  go_wp2
                  first
                    | exact ⟨trivial, rfl⟩
                    | exact rfl
                refine pl_take (i := 8) 121 rfl rfl rfl (by kernel_rfl) (by kernel_rfl) (by kernel_rfl) (by simp [Act.put]) hS.out ?_
                apply Exists.intro
                refine And.intro (fun w' hS' => ?_) ?_
                · refine wpList_unguard' rfl ?_
                  refine wpList_load_agg rfl 37 (.tmp 4) rfl ⟨w.heap.size + 1, 0, none⟩ rfl _ _ (At.block hS'.2.1).load Try.underlying37 rfl (by exact infoTx) ?_
                  clear hS'
                  go_wp2
                  first
                    | exact ⟨trivial, rfl⟩
                    | exact rfl
                obtain ⟨R, hR⟩ : ∃ R, R = decide (x = y) := ⟨_, rfl⟩
                have HR := Lib.hid hR
                clear hR HCw
                have C := tsame_any F G wa x y (.slice a0 k c0, .slice a2 K c2) (.slice a1 M c1, .slice a3 L c3) ⟨HI.out.fresh BWa.out, HO.out.fresh BWa.out⟩ ⟨HI'.out.fresh BWa.out, HO'.out.fresh BWa.out⟩
                rw [← HR.out] at C
                replace C := Lib.hid C
                refine pl_heavy (i := 6) rfl (by kernel_rfl) ?_
                refine wpList_unguard' rfl ?_
                go_wp2_with fail
                refine (C.out).mono ?_
                rintro e wb ⟨rfl, bq⟩
                replace hS := Lib.hid (And.intro (hS.out.1.fresh bq) (And.intro (hS.out.2.1.fresh bq) (hS.out.2.2.fresh bq)))
                have BWb := Lib.hid (BWa.out.tr bq)
                clear bq
                go_wp2
                refine And.intro hS.out ?_
                clear C
                have C := rsame_any F G wb x y (.slice a0 k c0, .slice a2 K c2) (.slice a1 M c1, .slice a3 L c3) ⟨HI.out.fresh BWb.out, HO.out.fresh BWb.out⟩ ⟨HI'.out.fresh BWb.out, HO'.out.fresh BWb.out⟩
                rw [← HR.out] at C
                replace C := Lib.hid C
                refine pl_heavy (i := 9) rfl (by kernel_rfl) ?_
                refine wpList_unguard' rfl ?_
                go_wp2_with fail
                refine (C.out).mono ?_
                rintro e wc9 ⟨rfl, bq⟩
                replace hS := Lib.hid (And.intro (hS.out.1.fresh bq) (And.intro (hS.out.2.1.fresh bq) (hS.out.2.2.fresh bq)))
                have BWc := Lib.hid (BWb.out.tr bq)
                clear bq
                go_wp2
                refine And.intro hS.out ?_
                clear C
                refine pl_take (i := 10) 123 rfl rfl rfl (by kernel_rfl) (by kernel_rfl) (by kernel_rfl) (by simp [Act.put]) hS.out ?_
                apply Exists.intro
                refine And.intro (fun w' hS' => ?_) ?_
                · refine wpList_unguard' rfl ?_
                  refine wpList_bin rfl .eql 4 4 (.tmp 119) (.tmp 122) rfl (.bool true) (bool_guard _ _ _) (bool_same _ _) ?_
                  clear hS'
                  go_wp2
                  exact ⟨trivial, rfl⟩
                refine pl_take (i := 11) 124 rfl rfl rfl (by kernel_rfl) (by kernel_rfl) (by kernel_rfl) (by simp [Act.put]) hS.out ?_
                apply Exists.intro
                refine And.intro (fun w' hS' => ?_) ?_
                · go_wp2
                  first
                    | exact ⟨trivial, rfl⟩
                    | exact rfl
                refine pl_take (i := 12) 125 rfl rfl rfl (by kernel_rfl) (by kernel_rfl) (by kernel_rfl) (by simp [Act.put]) hS.out ?_
                apply Exists.intro
                refine And.intro (fun w' hS' => ?_) ?_
                · go_wp2
                  first
                    | exact ⟨trivial, rfl⟩
                    | exact rfl
                refine pl_take (i := 13) 126 rfl rfl rfl (by kernel_rfl) (by kernel_rfl) (by kernel_rfl) (by simp [Act.put]) hS.out ?_
                apply Exists.intro
                refine And.intro (fun w' hS' => ?_) ?_
                · refine wpList_unguard' rfl ?_
                  refine wpList_load_agg rfl 37 (.tmp 3) rfl ⟨w.heap.size, 0, none⟩ rfl _ _ (At.block hS'.1).load Try.underlying37 rfl (by exact infoTx) ?_
                  clear hS'
                  go_wp2
                  first
                    | exact ⟨trivial, rfl⟩
                    | exact rfl
                refine pl_take (i := 14) 127 rfl rfl rfl (by kernel_rfl) (by kernel_rfl) (by kernel_rfl) (by simp [Act.put]) hS.out ?_
                apply Exists.intro
                refine And.intro (fun w' hS' => ?_) ?_
                · refine wpList_unguard' rfl ?_
                  refine wpList_load_agg rfl 37 (.tmp 3) rfl ⟨w.heap.size, 0, none⟩ rfl _ _ (At.block hS'.1).load Try.underlying37 rfl (by exact infoTx) ?_
                  clear hS'
                  go_wp2
                  first
                    | exact ⟨trivial, rfl⟩
                    | exact rfl
                have C := tsame_any F F wc9 x x (.slice a0 k c0, .slice a2 K c2) (.slice a0 k c0, .slice a2 K c2) ⟨HI.out.fresh BWc.out, HO.out.fresh BWc.out⟩ ⟨HI.out.fresh BWc.out, HO.out.fresh BWc.out⟩
                rw [decide_eq_true rfl] at C
                replace C := Lib.hid C
                refine pl_heavy (i := 15) rfl (by kernel_rfl) ?_
                refine wpList_unguard' rfl ?_
                go_wp2_with fail
                refine (C.out).mono ?_
                rintro e we ⟨rfl, bq⟩
                replace hS := Lib.hid (And.intro (hS.out.1.fresh bq) (And.intro (hS.out.2.1.fresh bq) (hS.out.2.2.fresh bq)))
                have BWe := Lib.hid (BWc.out.tr bq)
                clear bq
                go_wp2
                refine And.intro hS.out ?_
                clear C
                refine pl_take (i := 16) 129 rfl rfl rfl (by kernel_rfl) (by kernel_rfl) (by kernel_rfl) (by simp [Act.put]) hS.out ?_
                apply Exists.intro
                refine And.intro (fun w' hS' => ?_) ?_
                · go_wp2
                  first
                    | exact ⟨trivial, rfl⟩
                    | exact rfl
                refine pl_take (i := 17) 130 rfl rfl rfl (by kernel_rfl) (by kernel_rfl) (by kernel_rfl) (by simp [Act.put]) hS.out ?_
                apply Exists.intro
                refine And.intro (fun w' hS' => ?_) ?_
                · go_wp2
                  first
                    | exact ⟨trivial, rfl⟩
                    | exact rfl
                refine pl_take (i := 18) 131 rfl rfl rfl (by kernel_rfl) (by kernel_rfl) (by kernel_rfl) (by simp [Act.put]) hS.out ?_
                apply Exists.intro
                refine And.intro (fun w' hS' => ?_) ?_
                · refine wpList_unguard' rfl ?_
                  refine wpList_load_agg rfl 37 (.tmp 3) rfl ⟨w.heap.size, 0, none⟩ rfl _ _ (At.block hS'.1).load Try.underlying37 rfl (by exact infoTx) ?_
                  clear hS'
                  go_wp2
                  first
                    | exact ⟨trivial, rfl⟩
                    | exact rfl
                refine pl_take (i := 19) 132 rfl rfl rfl (by kernel_rfl) (by kernel_rfl) (by kernel_rfl) (by simp [Act.put]) hS.out ?_
                apply Exists.intro
                refine And.intro (fun w' hS' => ?_) ?_
                · refine wpList_unguard' rfl ?_
                  refine wpList_load_agg rfl 37 (.tmp 4) rfl ⟨w.heap.size + 1, 0, none⟩ rfl _ _ (At.block hS'.2.1).load Try.underlying37 rfl (by exact infoTx) ?_
                  clear hS'
                  go_wp2
                  first
                    | exact ⟨trivial, rfl⟩
                    | exact rfl
                refine pl_take (i := 21) 134 rfl rfl rfl (by kernel_rfl) (by kernel_rfl) (by kernel_rfl) (by simp [Act.put]) hS.out ?_
                apply Exists.intro
                refine And.intro (fun w' hS' => ?_) ?_
                · refine wpList_unguard' rfl ?_
                  refine wpList_load_agg rfl 37 (.tmp 3) rfl ⟨w.heap.size, 0, none⟩ rfl _ _ (At.block hS'.1).load Try.underlying37 rfl (by exact infoTx) ?_
                  clear hS'
                  go_wp2
                  first
                    | exact ⟨trivial, rfl⟩
                    | exact rfl
                refine pl_take (i := 22) 135 rfl rfl rfl (by kernel_rfl) (by kernel_rfl) (by kernel_rfl) (by simp [Act.put]) hS.out ?_
                apply Exists.intro
                refine And.intro (fun w' hS' => ?_) ?_
                · refine wpList_unguard' rfl ?_
                  refine wpList_load_agg rfl 37 (.tmp 4) rfl ⟨w.heap.size + 1, 0, none⟩ rfl _ _ (At.block hS'.2.1).load Try.underlying37 rfl (by exact infoTx) ?_
                  clear hS'
                  go_wp2
                  first
                    | exact ⟨trivial, rfl⟩
                    | exact rfl
                obtain ⟨R2, hR⟩ : ∃ R2, R2 = spendsB x y := ⟨_, rfl⟩
                have HR2 := Lib.hid hR
                clear hR
                have C := spends_any F G we x y (.slice a0 k c0, .slice a2 K c2) (.slice a1 M c1, .slice a3 L c3) (HI.out.fresh BWe.out) (HO.out.fresh BWe.out) (HI'.out.fresh BWe.out) (HO'.out.fresh BWe.out)
                rw [← HR2.out] at C
                replace C := Lib.hid C
                refine pl_heavy (i := 20) rfl (by kernel_rfl) ?_
                refine wpList_unguard' rfl ?_
                go_wp2_with fail
                refine (C.out).mono ?_
                rintro e wf1 ⟨rfl, bq⟩
                replace hS := Lib.hid (And.intro (hS.out.1.fresh bq) (And.intro (hS.out.2.1.fresh bq) (hS.out.2.2.fresh bq)))
                have BWf := Lib.hid (BWe.out.tr bq)
                clear bq
                go_wp2
                refine And.intro hS.out ?_
                clear C
                have C := rspends_any F G wf1 x y (.slice a0 k c0, .slice a2 K c2) (.slice a1 M c1, .slice a3 L c3) (HI.out.fresh BWf.out) (HO.out.fresh BWf.out) (HI'.out.fresh BWf.out) (HO'.out.fresh BWf.out)
                rw [← HR2.out] at C
                replace C := Lib.hid C
                refine pl_heavy (i := 23) rfl (by kernel_rfl) ?_
                refine wpList_unguard' rfl ?_
                go_wp2_with fail
                refine (C.out).mono ?_
                rintro e wg ⟨rfl, bq⟩
                replace hS := Lib.hid (And.intro (hS.out.1.fresh bq) (And.intro (hS.out.2.1.fresh bq) (hS.out.2.2.fresh bq)))
                have BWg := Lib.hid (BWf.out.tr bq)
                clear bq
                go_wp2
                refine And.intro hS.out ?_
                clear C
                refine pl_take (i := 24) 137 rfl rfl rfl (by kernel_rfl) (by kernel_rfl) (by kernel_rfl) (by simp [Act.put]) hS.out ?_
                apply Exists.intro
                refine And.intro (fun w' hS' => ?_) ?_
                · refine wpList_unguard' rfl ?_
                  refine wpList_bin rfl .eql 4 4 (.tmp 133) (.tmp 136) rfl (.bool true) (bool_guard _ _ _) (bool_same _ _) ?_
                  clear hS'
                  go_wp2
                  exact ⟨trivial, rfl⟩
                refine pl_take (i := 25) 138 rfl rfl rfl (by kernel_rfl) (by kernel_rfl) (by kernel_rfl) (by simp [Act.put]) hS.out ?_
                apply Exists.intro
                refine And.intro (fun w' hS' => ?_) ?_
                · go_wp2
                  first
                    | exact ⟨trivial, rfl⟩
                    | exact rfl
                refine pl_take (i := 26) 139 rfl rfl rfl (by kernel_rfl) (by kernel_rfl) (by kernel_rfl) (by simp [Act.put]) hS.out ?_
                apply Exists.intro
                refine And.intro (fun w' hS' => ?_) ?_
                · go_wp2
                  first
                    | exact ⟨trivial, rfl⟩
                    | exact rfl
                refine pl_take (i := 27) 140 rfl rfl rfl (by kernel_rfl) (by kernel_rfl) (by kernel_rfl) (by simp [Act.put]) hS.out ?_
                apply Exists.intro
                refine And.intro (fun w' hS' => ?_) ?_
                · refine wpList_unguard' rfl ?_
                  refine wpList_load_agg rfl 37 (.tmp 3) rfl ⟨w.heap.size, 0, none⟩ rfl _ _ (At.block hS'.1).load Try.underlying37 rfl (by exact infoTx) ?_
                  clear hS'
                  go_wp2
                  first
                    | exact ⟨trivial, rfl⟩
                    | exact rfl
                refine pl_take (i := 29) 142 rfl rfl rfl (by kernel_rfl) (by kernel_rfl) (by kernel_rfl) (by simp [Act.put]) hS.out ?_
                apply Exists.intro
                refine And.intro (fun w' hS' => ?_) ?_
                · refine wpList_unguard' rfl ?_
                  refine wpList_load_agg rfl 37 (.tmp 3) rfl ⟨w.heap.size, 0, none⟩ rfl _ _ (At.block hS'.1).load Try.underlying37 rfl (by exact infoTx) ?_
                  clear hS'
                  go_wp2
                  first
                    | exact ⟨trivial, rfl⟩
                    | exact rfl
                obtain ⟨Z, hZ⟩ : ∃ Z, Z = outV x := ⟨_, rfl⟩
                have HZ := Lib.hid hZ
                clear hZ
                have C := out_any F wg x (.slice a0 k c0, .slice a2 K c2) (HI.out.fresh BWg.out) (HO.out.fresh BWg.out) HWF.out
                rw [← HZ.out] at C
                replace C := Lib.hid C
                refine pl_heavy (i := 28) rfl (by kernel_rfl) ?_
                refine wpList_unguard' rfl ?_
                go_wp2_with fail
                refine (C.out).mono ?_
                rintro e wh ⟨rfl, bq⟩
                replace hS := Lib.hid (And.intro (hS.out.1.fresh bq) (And.intro (hS.out.2.1.fresh bq) (hS.out.2.2.fresh bq)))
                have BWh := Lib.hid (BWg.out.tr bq)
                clear bq
                go_wp2
                refine And.intro hS.out ?_
                clear C
                have C := rout_any F wh x (.slice a0 k c0, .slice a2 K c2) (HI.out.fresh BWh.out) (HO.out.fresh BWh.out) HWF.out
                rw [← HZ.out] at C
                replace C := Lib.hid C
                refine pl_heavy (i := 30) rfl (by kernel_rfl) ?_
                refine wpList_unguard' rfl ?_
                go_wp2_with fail
                refine (C.out).mono ?_
                rintro e wi ⟨rfl, bq⟩
                replace hS := Lib.hid (And.intro (hS.out.1.fresh bq) (And.intro (hS.out.2.1.fresh bq) (hS.out.2.2.fresh bq)))
                have BWi := Lib.hid (BWh.out.tr bq)
                clear bq
                go_wp2
                refine And.intro hS.out ?_
                clear C
                refine pl_take (i := 31) 144 rfl rfl rfl (by kernel_rfl) (by kernel_rfl) (by kernel_rfl) (by simp [Act.put]) hS.out ?_
                apply Exists.intro
                refine And.intro (fun w' hS' => ?_) ?_
                · refine wpList_unguard' rfl ?_
                  refine wpList_bin rfl .eql 25 25 (.tmp 141) (.tmp 143) rfl (.bool true) (u64_guard _ _ _ _ _ _) (u64_eq _ _) ?_
                  clear hS'
                  go_wp2
                  exact ⟨trivial, rfl⟩
                refine pl_take (i := 32) 145 rfl rfl rfl (by kernel_rfl) (by kernel_rfl) (by kernel_rfl) (by simp [Act.put]) hS.out ?_
                apply Exists.intro
                refine And.intro (fun w' hS' => ?_) ?_
                · go_wp2
                  first
                    | exact ⟨trivial, rfl⟩
                    | exact rfl
                refine pl_take (i := 33) 146 rfl rfl rfl (by kernel_rfl) (by kernel_rfl) (by kernel_rfl) (by simp [Act.put]) hS.out ?_
                apply Exists.intro
                refine And.intro (fun w' hS' => ?_) ?_
                · go_wp2
                  first
                    | exact ⟨trivial, rfl⟩
                    | exact rfl
                refine pl_take (i := 34) 147 rfl rfl rfl (by kernel_rfl) (by kernel_rfl) (by kernel_rfl) (by simp [Act.put]) hS.out ?_
                apply Exists.intro
                refine And.intro (fun w' hS' => ?_) ?_
                · refine wpList_unguard' rfl ?_
                  clear hS'
                  go_wp2
                  first
                    | exact ⟨trivial, rfl⟩
                    | exact rfl
                refine pl_take (i := 36) 149 rfl rfl rfl (by kernel_rfl) (by kernel_rfl) (by kernel_rfl) (by simp [Act.put]) hS.out ?_
                apply Exists.intro
                refine And.intro (fun w' hS' => ?_) ?_
                · refine wpList_unguard' rfl ?_
                  clear hS'
                  go_wp2
                  first
                    | exact ⟨trivial, rfl⟩
                    | exact rfl
                obtain ⟨Y, hY⟩ : ∃ Y, Y = shaB ws := ⟨_, rfl⟩
                have HYl : Hid (Y.length = 32) := Lib.hid (by rw [hY]; exact shaB_length _)
                have HY := Lib.hid hY
                clear hY
                have C := lock_any wi (.slice aw ws.length cw) ws (HWW.out.2.fresh BWi.out) (by have := HW9.out; have := HWW.out.1; omega)
                rw [← HWW.out.1, ← HY.out] at C
                replace C := Lib.hid C
                refine pl_heavy (i := 35) rfl (by kernel_rfl) ?_
                refine wpList_unguard' rfl ?_
                go_wp2_with fail
                refine (C.out).mono ?_
                rintro e wj ⟨rfl, bq⟩
                replace hS := Lib.hid (And.intro (hS.out.1.fresh bq) (And.intro (hS.out.2.1.fresh bq) (hS.out.2.2.fresh bq)))
                have BWj := Lib.hid (BWi.out.tr bq)
                clear bq
                go_wp2
                refine And.intro hS.out ?_
                clear C
                have C := rsum_any wj (.slice aw ws.length cw) ws (HWW.out.2.fresh BWj.out) (by have := HW9.out; have := HWW.out.1; omega)
                rw [← HWW.out.1, ← HY.out] at C
                replace C := Lib.hid C
                refine pl_heavy (i := 37) rfl (by kernel_rfl) ?_
                refine wpList_unguard' rfl ?_
                go_wp2_with fail
                refine (C.out).mono ?_
                rintro e wk ⟨rfl, bq⟩
                replace hS := Lib.hid (And.intro (hS.out.1.fresh bq) (And.intro (hS.out.2.1.fresh bq) (hS.out.2.2.fresh bq)))
                have BWk := Lib.hid (BWj.out.tr bq)
                clear bq
                go_wp2
                refine And.intro hS.out ?_
                clear C
                refine pl_take (i := 38) 151 rfl rfl rfl (by kernel_rfl) (by kernel_rfl) (by kernel_rfl) (by simp [Act.put]) hS.out ?_
                apply Exists.intro
                refine And.intro (fun w' hS' => ?_) ?_
                · refine wpList_unguard' rfl ?_
                  refine wpList_bin rfl .eql 24 24 (.tmp 148) (.tmp 150) rfl (.bool true) (eqGuard_agg _ _ _ _ _ _ _ (by kernel_rfl)) ((hash_eq _ Y Y HYl.out HYl.out).trans (by simp)) ?_
                  clear hS'
                  go_wp2
                  exact ⟨trivial, rfl⟩
                refine pl_take (i := 39) 152 rfl rfl rfl (by kernel_rfl) (by kernel_rfl) (by kernel_rfl) (by simp [Act.put]) hS.out ?_
                apply Exists.intro
                refine And.intro (fun w' hS' => ?_) ?_
                · go_wp2
                  first
                    | exact ⟨trivial, rfl⟩
                    | exact rfl
                refine pl_take (i := 40) 153 rfl rfl rfl (by kernel_rfl) (by kernel_rfl) (by kernel_rfl) (by simp [Act.put]) hS.out ?_
                apply Exists.intro
                refine And.intro (fun w' hS' => ?_) ?_
                · go_wp2
                  first
                    | exact ⟨trivial, rfl⟩
                    | exact rfl
                have C := known5_any wk
                replace C := Lib.hid C
                refine pl_heavy (i := 41) rfl (by kernel_rfl) ?_
                refine wpList_unguard' rfl ?_
                go_wp2_with fail
                refine (C.out).mono ?_
                rintro e wl ⟨rfl, bq⟩
                replace hS := Lib.hid (And.intro (hS.out.1.fresh bq) (And.intro (hS.out.2.1.fresh bq) (hS.out.2.2.fresh bq)))
                have BWl := Lib.hid (BWk.out.tr bq)
                clear bq
                go_wp2
                refine And.intro hS.out ?_
                clear C
                refine pl_take (i := 42) 155 rfl rfl rfl (by kernel_rfl) (by kernel_rfl) (by kernel_rfl) (by simp [Act.put]) hS.out ?_
                apply Exists.intro
                refine And.intro (fun w' hS' => ?_) ?_
                · go_wp2
                  first
                    | exact ⟨trivial, rfl⟩
                    | exact rfl
                refine pl_take (i := 43) 6 rfl rfl rfl (by kernel_rfl) (by kernel_rfl) (by kernel_rfl) (by simp [Act.put]) hS.out ?_
                apply Exists.intro
                refine And.intro (fun w' hS' => ?_) ?_
                · go_wp2
                  first
                    | exact ⟨trivial, rfl⟩
                    | exact rfl
                refine pl_done (by kernel_rfl) ?_
                go_wp2
                go_ret
                exact ⟨rfl, BWl.out⟩

end Go.Proofs.Ytkbahhnjoidhcaa
