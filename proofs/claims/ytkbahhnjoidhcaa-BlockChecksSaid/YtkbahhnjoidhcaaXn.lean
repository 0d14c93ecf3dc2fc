/- block.Copy: the walk. -/
import Derived.Test.YtkbahhnjoidhcaaXm
import Derived.Test.YtkbahhnjoidhcaaXk
namespace Go.Proofs.Ytkbahhnjoidhcaa
set_option linter.unusedVariables false
set_option linter.unusedSimpArgs false
open Go.RowKit

theorem infoC_tx : (Try.prog.info? 37).map (fun i => (i.zero, i.size, i.bytes)) = some (some (.agg #[Value.slice none 0 0, Value.slice none 0 0, Value.int .u64 0]), 3, 56) := by kernel_rfl

/-- A block's zero. -/
def zeroBl : List Value := .slice none 0 0 :: (List.replicate 128 (Value.int .u8 0) ++ [Value.int .u64 0, .slice none 0 0])

def BlFit (b : BlD) : Prop := b.hd.par.length ≤ 100000000 ∧ b.txs.length ≤ 100000000 ∧ ∀ x ∈ b.txs, TxFit x

theorem blC_set0 (x : BlD) (v v' t : Value) : (blC x v t).set 0 v' = blC x v' t := rfl
theorem blC_set130 (x : BlD) (v t t' : Value) (h : HdOk x.hd) : (blC x v t).set 130 t' = blC x v t' := by
  unfold blC
  rw [List.set_append, if_neg (by rw [hdC_length h]; omega), hdC_length h]
  rfl
theorem blC_length {x : BlD} {v t : Value} (h : HdOk x.hd) : (blC x v t).length = 131 := by
  unfold blC
  rw [List.length_append, hdC_length h]
  rfl
theorem blC_one (x : BlD) (v t : Value) (h1 : v.oneCell' = true) (h2 : t.oneCell' = true) : ∀ c ∈ blC x v t, c.oneCell' = true := by
  intro c hc
  simp only [blC, hdC, List.mem_append, List.mem_cons, List.not_mem_nil, or_false] at hc
  rcases hc with (rfl | hc | hc | hc | hc | rfl) | rfl
  · exact h1
  · exact bvs_one _ c hc
  · exact bvs_one _ c hc
  · exact bvs_one _ c hc
  · exact bvs_one _ c hc
  · rfl
  · exact h2

theorem CB.grownT {w w' : World} {row : Option Nat} {e : TypeId} {g : Nat} {L : List Value} (h : CB w e g L) (ho : w.grownBy w' row) (hg : row ≠ some g) : CB w' e g L := by
  unfold CB
  rw [ho.block g h.lt (fun e => hg e.symm)]
  exact h

theorem own_grownT {w w' : World} {base : Nat} {r : Option Nat} {e : TypeId} {size : Nat} {v : Value} {n : Nat} {xs : List Value} (h : w.ownsRow base e size v n xs) (hg : w.grownBy w' r) (hne : ∀ k, v.ownBlock = some k → r ≠ some k) : w'.ownsRow base e size v n xs := by
  refine ⟨h.1, ?_⟩
  rcases h.2 with h1 | ⟨g', cap, cur, he, hb, hh, q⟩
  · exact .inl h1
  · refine .inr ⟨g', cap, cur, he, hb, ?_, q⟩
    rw [hg.block g' (lt_of_block hh) (fun e => hne g' (by rw [he]; rfl) e.symm)]
    exact hh

theorem Kp.grown {w w' : World} {F : Nat → Prop} {r : Option Nat} (h : w.grownBy w' r) (hF : ∀ k, F k → r ≠ some k) : Kp F w w' := fun k hk hf => h.block k hk (fun e => hF k hf e.symm)

theorem take_zip_snoc {α β : Type} (l : List α) (us : List β) (k : Nat) (x : α) (u : β) (hx : l[k]? = some x) (hu : us.length = k) : (l.take (k + 1)).zip (us ++ [u]) = (l.take k).zip us ++ [(x, u)] := by
  have hk : k < l.length := (List.getElem?_eq_some_iff.1 hx).1
  rw [List.take_add_one, hx, Option.toList, List.zip_append (by rw [List.length_take]; omega)]
  rfl

set_option maxRecDepth 100000 in
set_option maxHeartbeats 4000000 in
theorem blcopy_any (F : Nat → Prop) (w : World) (x : BlD) (v t : Value) (hx : HdOk x.hd) (hv : Hs w v x.hd.par) (ht : Txs F w t x.txs) (hfit : BlFit x) :
    Calls Try.prog 9 #[.agg (blC x v t).toArray] w fun e w' => ∃ v' t' : Value, e = .returned (.agg (blC x v' t').toArray) ∧ HsF (fun k => w.heap.size ≤ k) w' v' x.hd.par ∧ Txs (fun k => w.heap.size ≤ k) w' t' x.txs ∧ Below w.heap.size w w' := by
  obtain ⟨i0, hi, hz0, hz1, hz2⟩ := info_parts infoC_tx
  have HINF := Lib.hid (And.intro hi (And.intro hz0 (And.intro hz1 hz2)))
  clear hi hz0 hz1 hz2
  obtain ⟨a1, c1, rfl⟩ := ht.slice
  obtain ⟨N, hN⟩ : ∃ N, N = x.txs.length := ⟨_, rfl⟩
  obtain ⟨us, hlu, hru, heu⟩ := ht
  rw [← hN] at hlu hru
  rw [← hN]
  have bN' : (N : Int) ≤ 9223372036854775807 := rd_small' hru.1
  have HV := Lib.hid hv
  have HI := Lib.hid hru.1
  have HE := Lib.hid heu
  have HL := Lib.hid (And.intro hN (And.intro hlu (And.intro hfit hx)))
  obtain ⟨X, hX⟩ : ∃ X, X = blC x v (.slice a1 N c1) := ⟨_, rfl⟩
  rw [← hX]
  have HX := Lib.hid hX
  clear hN hlu hru heu hv hfit hx hX
  go_enter Try.func9, Try.ntmps9
  go_wp2_with (with_reducible refine stopAt 8 ?_)
  refine Stop.go ?_
  obtain ⟨w1, h1, k1, b1, s1⟩ := alloc_cb w 30 X
  obtain ⟨w2, h2, k2, b2, s2⟩ := alloc_cb w1 30 zeroBl
  change wpList _ _ _ _ _ ((w.alloc (.cells X.toArray 30)).alloc (.cells zeroBl.toArray 30))
  rw [← h1, ← h2]
  rw [s1] at s2 k2
  have BB := Lib.hid (b1.tr b2)
  have KK : Hid (CB w2 30 w.heap.size (blC x v (.slice a1 N c1))) := Lib.hid (by rw [← HX.out]; exact k1.fresh b2)
  have GG : Hid (CB w2 30 (w.heap.size + 1) zeroBl) := Lib.hid k2
  have hc1 := hd_cell (At.pre (At.block KK.out))
  clear h1 h2 k1 k2 b1 b2 s1 s2
  go_wp2_with fail
  refine (clone_hash w2 v x.hd.par.length (bvs x.hd.par.flatten) (HV.out.2.fresh BB.out) (bvs_one _) HL.out.2.2.1.1).mono ?_
  rintro e w3 ⟨v', rfl, ov, b3⟩
  clear hc1
  have L2 : Hid (w.heap.size ≤ w2.heap.size) := Lib.hid BB.out.size
  obtain ⟨a4, c4, rfl⟩ := (Rd.of_own ov).slice
  obtain ⟨n4, hn4⟩ : ∃ n, n = x.hd.par.length := ⟨_, rfl⟩
  rw [← hn4] at ov ⊢
  have LV : Hid (∀ k, (Value.slice a4 n4 c4).ownBlock = some k → w.heap.size + 1 < k ∧ k < w3.heap.size) := Lib.hid (fun k hk => by have h1 := ov.lt k hk; have h2 := GG.out.lt; exact ⟨by omega, h1.2⟩)
  have OV := Lib.hid ov
  have HN4 := Lib.hid hn4
  replace BB := Lib.hid (BB.out.tr b3)
  replace KK := Lib.hid (KK.out.fresh b3)
  replace GG := Lib.hid (GG.out.fresh b3)
  clear ov b3 hn4
  have hc1 : w3.cell? ⟨w.heap.size, 0, none⟩ = some v := hd_cell (At.pre (At.block KK.out))
  have hf1 : w3.frozen? ⟨w.heap.size, 0, none⟩ = false := frozen_of_row w3 w.heap.size 0 _ _ KK.out
  go_wp2_with (with_reducible refine stopAt 13 ?_)
  refine Stop.go ?_
  clear hc1 hf1
  obtain ⟨w4, hw4⟩ : ∃ w4, w4 = w3.setCell ⟨w.heap.size, 0, none⟩ (.slice a4 n4 c4) := ⟨_, rfl⟩
  have oz : Only w.heap.size w3 w4 := by rw [hw4]; exact Only.setCell w3 w.heap.size 0 _
  have kz := KK.out.set 0 (.slice a4 n4 c4)
  rw [blC_set0, ← hw4] at kz
  rw [← hw4]
  have KZ := Lib.hid kz
  have GZ := Lib.hid (GG.out.only oz (by omega))
  have BZ := Lib.hid (Below.only BB.out oz (Nat.le_refl _))
  have LZ : Hid (w.heap.size + 1 < w4.heap.size ∧ ∀ k, (Value.slice a4 n4 c4).ownBlock = some k → w.heap.size + 1 < k ∧ k < w4.heap.size) := Lib.hid ⟨GZ.out.lt, fun k hk => by have h1 := LV.out k hk; rw [oz.size]; exact h1⟩
  have OZ := Lib.hid (own_lower' (own_onlyT OV.out oz (fun e => by have := (LV.out _ e).1; omega)) L2.out)
  clear kz hw4 oz KK GG BB OV LV
  have hc2 := bl_cell (At.block KZ.out) HL.out.2.2.2
  go_wp2
  clear hc2
  go_loopw [3, 5, 15] (fun v3 v5 v15 wr => Below w.heap.size w wr ∧ w4.heap.size ≤ wr.heap.size ∧ CB wr 30 w.heap.size (blC x (.slice a4 n4 c4) (.slice a1 N c1)) ∧ CB wr 30 (w.heap.size + 1) zeroBl ∧ wr.ownsRow w.heap.size 24 32 (.slice a4 n4 c4) n4 (bvs x.hd.par.flatten) ∧ ∃ (k : Nat) (vs : List (Value × Value)) (a3 : Option Addr) (c3 : Nat), k ≤ N ∧ v15 = .int .i64 (k : Int) ∧ v3 = .slice a3 k c3 ∧ vs.length = k ∧ wr.ownsRow w4.heap.size 37 3 (.slice a3 k c3) k (((x.txs.take k).zip vs).flatMap txC) ∧ ∀ (i : Nat) (xi : TxD) (u : Value × Value), x.txs[i]? = some xi → vs[i]? = some u → Ins (fun b => (w.heap.size + 1 < b ∧ b < wr.heap.size) ∧ (Value.slice a3 k c3).ownBlock ≠ some b) wr u.1 xi.ins ∧ Outs (fun b => (w.heap.size + 1 < b ∧ b < wr.heap.size) ∧ (Value.slice a3 k c3).ownBlock ≠ some b) wr u.2 xi.outs)
    (fun _ _ v _ => N - (RowKit.intOf v).toNat)
  case atStart => exact ⟨BZ.out, Nat.le_refl _, KZ.out, GZ.out, OZ.out, 0, [], none, 0, Nat.zero_le _, rfl, rfl, rfl, World.ownsRow_nil _ _ _ _, fun i xi u _ h => by simp at h⟩
  case round =>
    obtain ⟨hb, hl4, hk1, hg, hov, k, vs, a3, c3, hk, rfl, rfl, hlv, hot, hw⟩ := hrel
    by_cases hlt : k < N
    · obtain ⟨xk, hx⟩ : ∃ z, x.txs[k]? = some z := ⟨_, List.getElem?_eq_getElem (by rw [← HL.out.1]; exact hlt)⟩
      obtain ⟨uk, hux⟩ : ∃ z, us[k]? = some z := ⟨_, List.getElem?_eq_getElem (by rw [HL.out.2.1]; exact hlt)⟩
      obtain ⟨ad, c, he⟩ := rd_some HI.out (by omega)
      simp only [Value.slice.injEq, true_and] at he
      obtain ⟨rfl, rfl⟩ := he
      have hz : (x.txs.zip us)[k]? = some (xk, uk) := by rw [List.getElem?_zip_eq_some]; exact ⟨hx, hux⟩
      have HC := Lib.hid ((HI.out.fresh hb).at (fun z _ => rfl) hz)
      have h9 := HE.out k xk uk hx hux
      have HT := Lib.hid (And.intro (h9.1.fresh hb) (h9.2.fresh hb))
      have HF := Lib.hid (HL.out.2.2.1.2.2 xk (List.mem_of_getElem? hx))
      have HP : Hid (uk.1.oneCell' = true ∧ uk.2.oneCell' = true) := Lib.hid ⟨by obtain ⟨_, _, e⟩ := h9.1.slice; rw [e]; rfl, by obtain ⟨_, _, e⟩ := h9.2.slice; rw [e]; rfl⟩
      have HG := Lib.hid (And.intro hx hlv)
      have HB := Lib.hid hb
      have H1 := Lib.hid hk1
      have H2 := Lib.hid hg
      have HOv := Lib.hid hov
      have HOt := Lib.hid hot
      have HW := Lib.hid hw
      have HK := Lib.hid hlt
      have L4 := Lib.hid hl4
      clear hl4
      have ik : (k : Int) < (N : Int) := by omega
      clear hx hux hz h9 hlv hb hk1 hg hov hot hw hlt hk KZ GZ BZ OZ
      go_wp2_with (with_reducible refine stopAt 18 ?_)
      refine Stop.go ?_
      refine wpList_load_agg rfl 37 (.tmp 17) rfl (ad.add (k * 3)) rfl (txC (xk, uk)) _ HC.out Try.underlying37 rfl (by exact infoTx) ?_
      go_wp2_with (with_reducible refine stopStore 37 ?_)
      refine Stop.go ?_
      refine wpList_store_var rfl 37 (.tmp 5) (.tmp 18) rfl wr.heap.size _ rfl _ (txC (xk, uk)) rfl (heap_alloc_new wr _) (by rfl) (txC_one xk uk HP.out.1 HP.out.2) (by exact infoTx) ?_
      intro w5 k5 o5
      have b5 : Below wr.heap.size wr w5 := Below.only ((Below.refl _ wr).alloc (Nat.le_refl _) _) o5 (Nat.le_refl _)
      obtain ⟨G5, hG5⟩ : ∃ g, g = wr.heap.size := ⟨_, rfl⟩
      have K5 : Hid (CB w5 37 G5 (txC (xk, uk))) := Lib.hid (by rw [hG5]; exact k5)
      rw [← hG5]
      replace HB := Lib.hid (HB.out.tr b5)
      replace H1 := Lib.hid (H1.out.fresh b5)
      replace H2 := Lib.hid (H2.out.fresh b5)
      replace HOv := Lib.hid (own_fresh HOv.out b5)
      replace HOt := Lib.hid (own_fresh HOt.out b5)
      have HWa : Hid (∀ (i : Nat) (xi : TxD) (u : Value × Value), x.txs[i]? = some xi → vs[i]? = some u → Ins (fun b => (w.heap.size + 1 < b ∧ b < w5.heap.size) ∧ (Value.slice a3 k c3).ownBlock ≠ some b) w5 u.1 xi.ins ∧ Outs (fun b => (w.heap.size + 1 < b ∧ b < w5.heap.size) ∧ (Value.slice a3 k c3).ownBlock ≠ some b) w5 u.2 xi.outs) := Lib.hid (fun i xi u h1 h2 => by
        have h3 := HW.out i xi u h1 h2
        have hm : ∀ b, ((w.heap.size + 1 < b ∧ b < wr.heap.size) ∧ (Value.slice a3 k c3).ownBlock ≠ some b) → ((w.heap.size + 1 < b ∧ b < w5.heap.size) ∧ (Value.slice a3 k c3).ownBlock ≠ some b) := fun b hb => ⟨⟨hb.1.1, Nat.lt_of_lt_of_le hb.1.2 (b5).size⟩, hb.2⟩
        exact ⟨(h3.1.fresh b5).mono hm, (h3.2.fresh b5).mono hm⟩)
      replace L4 := Lib.hid (Nat.le_trans L4.out b5.size)
      replace HT := Lib.hid (And.intro (HT.out.1.fresh b5) (HT.out.2.fresh b5))
      clear k5 o5 b5 hG5 HW HC
      go_wp2_with (with_reducible refine stopAt 20 ?_)
      refine Stop.go ?_
      refine wpList_load_agg rfl 37 (.tmp 5) rfl ⟨G5, 0, none⟩ rfl (txC (xk, uk)) _ (At.block K5.out).load Try.underlying37 rfl (by exact infoTx) ?_
      go_wp2_with fail
      refine (txcopy_any F w5 xk uk HT.out HF.out).mono ?_
      rintro e w6 ⟨⟨p1, p2⟩, rfl, hi6, ho6, b6⟩
      obtain ⟨a6, c6, e6⟩ := hi6.slice
      change p1 = _ at e6
      subst e6
      obtain ⟨a7, c7, e7⟩ := ho6.slice
      change p2 = _ at e7
      subst e7
      have HI6 := Lib.hid hi6
      have HO6 := Lib.hid ho6
      have L5 : Hid (w.heap.size + 1 < w5.heap.size) := Lib.hid H2.out.lt
      have L3 : Hid (∀ b, (Value.slice a3 k c3).ownBlock = some b → w4.heap.size ≤ b ∧ b < w5.heap.size) := Lib.hid (fun b hb => HOt.out.lt b hb)
      replace L4 := Lib.hid (Nat.le_trans L4.out b6.size)
      replace HB := Lib.hid (HB.out.tr b6)
      replace H1 := Lib.hid (H1.out.fresh b6)
      replace H2 := Lib.hid (H2.out.fresh b6)
      replace HOv := Lib.hid (own_fresh HOv.out b6)
      replace HOt := Lib.hid (own_fresh HOt.out b6)
      have HWb : Hid (∀ (i : Nat) (xi : TxD) (u : Value × Value), x.txs[i]? = some xi → vs[i]? = some u → Ins (fun b => (w.heap.size + 1 < b ∧ b < w6.heap.size) ∧ (Value.slice a3 k c3).ownBlock ≠ some b) w6 u.1 xi.ins ∧ Outs (fun b => (w.heap.size + 1 < b ∧ b < w6.heap.size) ∧ (Value.slice a3 k c3).ownBlock ≠ some b) w6 u.2 xi.outs) := Lib.hid (fun i xi u h1 h2 => by
        have h3 := HWa.out i xi u h1 h2
        have hm : ∀ b, ((w.heap.size + 1 < b ∧ b < w5.heap.size) ∧ (Value.slice a3 k c3).ownBlock ≠ some b) → ((w.heap.size + 1 < b ∧ b < w6.heap.size) ∧ (Value.slice a3 k c3).ownBlock ≠ some b) := fun b hb => ⟨⟨hb.1.1, Nat.lt_of_lt_of_le hb.1.2 (b6).size⟩, hb.2⟩
        exact ⟨(h3.1.fresh b6).mono hm, (h3.2.fresh b6).mono hm⟩)
      clear hi6 ho6 b6 HWa K5 HT
      obtain ⟨n6, hn6⟩ : ∃ n, n = xk.ins.length := ⟨_, rfl⟩
      obtain ⟨n7, hn7⟩ : ∃ n, n = xk.outs.length := ⟨_, rfl⟩
      rw [← hn6] at HI6
      rw [← hn7] at HO6
      rw [← hn6, ← hn7]
      clear hn6 hn7
      rw [show (txC (xk, (Value.slice a6 n6 c6, Value.slice a7 n7 c7))).toArray = #[Value.slice a6 n6 c6, Value.slice a7 n7 c7, .int .u64 xk.nonce] from rfl]
      go_wp2_with (at_builtin; apply Stop.mk)
      refine Stop.go ?_
      obtain ⟨w7, h7, k7, b7, s7⟩ := alloc_cb w6 37 [.slice a6 n6 c6, .slice a7 n7 c7, .int .u64 xk.nonce]
      change wpList _ _ _ _ _ (w6.alloc (.cells [.slice a6 n6 c6, .slice a7 n7 c7, .int .u64 xk.nonce].toArray 37))
      rw [← h7]
      replace HB := Lib.hid (HB.out.tr b7)
      replace H1 := Lib.hid (H1.out.fresh b7)
      replace H2 := Lib.hid (H2.out.fresh b7)
      replace HOv := Lib.hid (own_fresh HOv.out b7)
      replace HOt := Lib.hid (own_fresh HOt.out b7)
      have HWc : Hid (∀ (i : Nat) (xi : TxD) (u : Value × Value), x.txs[i]? = some xi → vs[i]? = some u → Ins (fun b => (w.heap.size + 1 < b ∧ b < w7.heap.size) ∧ (Value.slice a3 k c3).ownBlock ≠ some b) w7 u.1 xi.ins ∧ Outs (fun b => (w.heap.size + 1 < b ∧ b < w7.heap.size) ∧ (Value.slice a3 k c3).ownBlock ≠ some b) w7 u.2 xi.outs) := Lib.hid (fun i xi u h1 h2 => by
        have h3 := HWb.out i xi u h1 h2
        have hm : ∀ b, ((w.heap.size + 1 < b ∧ b < w6.heap.size) ∧ (Value.slice a3 k c3).ownBlock ≠ some b) → ((w.heap.size + 1 < b ∧ b < w7.heap.size) ∧ (Value.slice a3 k c3).ownBlock ≠ some b) := fun b hb => ⟨⟨hb.1.1, Nat.lt_of_lt_of_le hb.1.2 (b7).size⟩, hb.2⟩
        exact ⟨(h3.1.fresh b7).mono hm, (h3.2.fresh b7).mono hm⟩)
      replace L4 := Lib.hid (Nat.le_trans L4.out b7.size)
      have L67 : Hid (w6.heap.size ≤ w7.heap.size) := Lib.hid b7.size
      replace HI6 := Lib.hid (HI6.out.fresh b7)
      replace HO6 := Lib.hid (HO6.out.fresh b7)
      obtain ⟨G7, hG7⟩ : ∃ g, g = w6.heap.size := ⟨_, rfl⟩
      rw [← hG7] at k7 ⊢
      have hrd : Rd w7 3 (.slice (some ⟨G7, 0, none⟩) 1 1) 1 (txC (xk, (Value.slice a6 n6 c6, Value.slice a7 n7 c7))) := ⟨rfl, .inr ⟨_, _, rfl, Nat.le_refl _, by decide, (At.block k7).load⟩⟩
      clear h7 k7 b7 s7 hG7 HWb
      refine wpList_append_rd _ rfl (.tmp 19) (.tmp 22) 28 rfl w4.heap.size 37 i0 _ 3 56 Try.underlying28 HINF.out.1 HINF.out.2.1 HINF.out.2.2.1 HINF.out.2.2.2 rfl (by decide) (.slice a3 k c3) k _ rfl HOt.out (.slice (some ⟨G7, 0, none⟩) 1 1) 1 _ rfl hrd (txC_one _ _ rfl rfl) (by unfold maxLen; have := HK.out; have := HL.out.1; have := HL.out.2.2.1.2.1; omega) (by have := HK.out; have := HL.out.1; have := HL.out.2.2.1.2.1; omega) L4.out ?_
      intro v8 w8 o8 g8 _ gr8
      obtain ⟨a8, c8, rfl⟩ := (Rd.of_own o8).slice
      have hrow : ∀ b, (Value.slice a3 k c3).ownBlock = some b → w.heap.size + 1 < b := fun b hb => by have := (L3.out b hb).1; have := LZ.out.1; omega
      have Q1 := Lib.hid (HB.out.grown g8 HB.out.size (fun j hj => by have := hrow j hj; omega))
      have Q2 := Lib.hid (H1.out.grownT g8 (fun e => by have := hrow _ e; omega))
      have Q3 := Lib.hid (H2.out.grownT g8 (fun e => by have := hrow _ e; omega))
      have Q4 := Lib.hid (own_grownT HOv.out g8 (fun b hb e => by have := (LZ.out.2 b hb).2; have := (L3.out b e).1; omega))
      have Q5 : Hid (w8.ownsRow w4.heap.size 37 3 (.slice a8 (k + 1) c8) (k + 1) (((x.txs.take (k + 1)).zip (vs ++ [(Value.slice a6 n6 c6, Value.slice a7 n7 c7)])).flatMap txC)) := Lib.hid (by
        rw [take_zip_snoc _ _ _ _ _ HG.out.1 HG.out.2, List.flatMap_append]
        simpa using o8)
      have Q6 : Hid (w4.heap.size ≤ w8.heap.size) := Lib.hid (Nat.le_trans L4.out g8.size)
      have Q7 : Hid (∀ (i : Nat) (xi : TxD) (u : Value × Value), x.txs[i]? = some xi → (vs ++ [(Value.slice a6 n6 c6, Value.slice a7 n7 c7)])[i]? = some u → Ins (fun b => (w.heap.size + 1 < b ∧ b < w8.heap.size) ∧ (Value.slice a8 (k + 1) c8).ownBlock ≠ some b) w8 u.1 xi.ins ∧ Outs (fun b => (w.heap.size + 1 < b ∧ b < w8.heap.size) ∧ (Value.slice a8 (k + 1) c8).ownBlock ≠ some b) w8 u.2 xi.outs) := Lib.hid (fun i xi u h1 h2 => by
        have hnew : ∀ b, b < w7.heap.size → (Value.slice a3 k c3).ownBlock ≠ some b → (Value.slice a8 (k + 1) c8).ownBlock ≠ some b := fun b hb hne e => by
          rcases gr8 b e with h | h
          · exact hne h
          · omega
        rcases Nat.lt_or_ge i k with hik | hik
        · rw [List.getElem?_append_left (by rw [HG.out.2]; exact hik)] at h2
          have h3 := HWc.out i xi u h1 h2
          have hkp : Kp (fun b => (w.heap.size + 1 < b ∧ b < w7.heap.size) ∧ (Value.slice a3 k c3).ownBlock ≠ some b) w7 w8 := Kp.grown g8 (fun b hb => hb.2)
          have hm : ∀ b, ((w.heap.size + 1 < b ∧ b < w7.heap.size) ∧ (Value.slice a3 k c3).ownBlock ≠ some b) → ((w.heap.size + 1 < b ∧ b < w8.heap.size) ∧ (Value.slice a8 (k + 1) c8).ownBlock ≠ some b) := fun b hb => ⟨⟨hb.1.1, Nat.lt_of_lt_of_le hb.1.2 g8.size⟩, hnew b hb.1.2 hb.2⟩
          exact ⟨(h3.1.kept hkp).mono hm, (h3.2.kept hkp).mono hm⟩
        · rw [List.getElem?_append_right (by rw [HG.out.2]; exact hik)] at h2
          have hik' : i = k := by
            have := (List.getElem?_eq_some_iff.1 h2).1
            simp at this
            have := HG.out.2
            omega
          subst hik'
          rw [HG.out.2, Nat.sub_self] at h2
          simp only [List.getElem?_cons_zero, Option.some.injEq] at h2
          subst h2
          rw [HG.out.1] at h1
          simp only [Option.some.injEq] at h1
          subst h1
          have hkp : Kp (fun b => w5.heap.size ≤ b ∧ b < w6.heap.size) w7 w8 := Kp.grown g8 (fun b hb e => by have := (L3.out b e).2; omega)
          have hm : ∀ b, (w5.heap.size ≤ b ∧ b < w6.heap.size) → ((w.heap.size + 1 < b ∧ b < w8.heap.size) ∧ (Value.slice a8 (i + 1) c8).ownBlock ≠ some b) := fun b hb => ⟨⟨by have := L5.out; omega, by have := L67.out; have := g8.size; omega⟩, hnew b (by have := L67.out; omega) (fun e => by have := (L3.out b e).2; omega)⟩
          exact ⟨(HI6.out.kept hkp).mono hm, (HO6.out.kept hkp).mono hm⟩)
      clear hrd o8 g8 gr8 hrow HB H1 H2 HOv HOt HWc HI6 HO6 L3 L4 L5 L67
      go_wp2
      go_roundw
      case rel => exact ⟨Q1.out, Q6.out, Q2.out, Q3.out, Q4.out, k + 1, _, a8, c8, HK.out, by go_num, rfl, by simp [HG.out.2], Q5.out, Q7.out⟩
      case measure => simp only [RowKit.intOf]; have := HK.out; omega
    · have ik : ¬ ((k : Int) < (N : Int)) := by omega
      have hkN : k = N := by omega
      subst hkN
      have htk : x.txs.take k = x.txs := List.take_of_length_le (by rw [← HL.out.1]; exact Nat.le_refl _)
      rw [htk] at hot
      have HH := Lib.hid (And.intro hb (And.intro hk1 (And.intro hg (And.intro hov (And.intro hlv (And.intro hot hw))))))
      have hcT := bl_cell (At.block hk1) HL.out.2.2.2
      have hfT : wr.frozen? ⟨w.heap.size, 130, none⟩ = false := frozen_of_row wr w.heap.size 130 _ _ hk1
      clear hl4 hb hk1 hg hov hlv hot hw hk hlt htk KZ GZ BZ OZ
      go_wp2_with (with_reducible refine stopAt 27 ?_)
      refine Stop.go ?_
      clear hcT hfT
      obtain ⟨w8, hw8⟩ : ∃ w8, w8 = wr.setCell ⟨w.heap.size, 130, none⟩ (.slice a3 k c3) := ⟨_, rfl⟩
      have oz : Only w.heap.size wr w8 := by rw [hw8]; exact Only.setCell wr w.heap.size 130 _
      have kz := HH.out.2.1.set 130 (.slice a3 k c3)
      rw [blC_set130 _ _ _ _ HL.out.2.2.2, ← hw8] at kz
      rw [← hw8]
      have KZ := Lib.hid kz
      have GZ := Lib.hid (HH.out.2.2.1.only oz (by omega))
      have BZ := Lib.hid (Below.only HH.out.1 oz (Nat.le_refl _))
      have OV := Lib.hid (own_onlyT HH.out.2.2.2.1 oz (fun e => by have := (LZ.out.2 _ e).1; omega))
      have OT := Lib.hid (own_onlyT HH.out.2.2.2.2.2.1 oz (fun e => by have := (HH.out.2.2.2.2.2.1.lt _ e).1; have := LZ.out.1; omega))
      have HW : Hid (∀ (i : Nat) (xi : TxD) (u : Value × Value), x.txs[i]? = some xi → vs[i]? = some u → Ins (fun b => w.heap.size + 1 < b) w8 u.1 xi.ins ∧ Outs (fun b => w.heap.size + 1 < b) w8 u.2 xi.outs) := Lib.hid (fun i xi u h1 h2 => by
        have h3 := HH.out.2.2.2.2.2.2 i xi u h1 h2
        have hkp : Kp (fun b => w.heap.size + 1 < b) wr w8 := fun b _ hb => oz.block b (by omega)
        exact ⟨(h3.1.mono (fun b hb => hb.1.1)).kept hkp, (h3.2.mono (fun b hb => hb.1.1)).kept hkp⟩)
      clear kz hw8 oz
      refine wpList_load_agg rfl 30 (.tmp 1) rfl ⟨w.heap.size, 0, none⟩ rfl (blC x (.slice a4 n4 c4) (.slice a3 k c3)) _ (At.block KZ.out).load Try.underlying30 rfl (by rw [blC_length HL.out.2.2.2]; exact infoBl) ?_
      go_wp2_with (with_reducible refine stopStore 30 ?_)
      refine Stop.go ?_
      refine wpList_store_var rfl 30 (.tmp 2) (.tmp 27) rfl (w.heap.size + 1) _ rfl _ (blC x (.slice a4 n4 c4) (.slice a3 k c3)) rfl GZ.out (by rw [blC_length HL.out.2.2.2]; rfl) (blC_one _ _ _ rfl rfl) (by rw [blC_length HL.out.2.2.2]; exact infoBl) ?_
      intro wf kf of
      have BF := Lib.hid (Below.only BZ.out of (by omega))
      have KF := Lib.hid kf
      have OF := Lib.hid (own_onlyT OV.out of (fun e => by have := (LZ.out.2 _ e).1; omega))
      have OP := Lib.hid (own_onlyT OT.out of (fun e => by have := (OT.out.lt _ e).1; have := LZ.out.1; omega))
      have WF : Hid (∀ (i : Nat) (xi : TxD) (u : Value × Value), x.txs[i]? = some xi → vs[i]? = some u → Ins (fun b => w.heap.size ≤ b) wf u.1 xi.ins ∧ Outs (fun b => w.heap.size ≤ b) wf u.2 xi.outs) := Lib.hid (fun i xi u h1 h2 => by
        have h3 := HW.out i xi u h1 h2
        have hkp : Kp (fun b => w.heap.size + 1 < b) w8 wf := fun b _ hb => of.block b (by omega)
        exact ⟨(h3.1.kept hkp).mono (fun b hb => by omega), (h3.2.kept hkp).mono (fun b hb => by omega)⟩)
      clear kf of
      go_wp2
      refine bodyPost_ret (results_cell1 rfl _ _ (w.heap.size + 1) _ _ _ _ rfl KF.out Try.underlying30 rfl (by rw [List.size_toArray, blC_length HL.out.2.2.2]; exact infoBl)) rfl ⟨_, _, rfl, ⟨HV.out.1, ⟨?_, fun b hb => ?_⟩⟩, ⟨vs, HH.out.2.2.2.2.1.trans HL.out.1, ⟨?_, fun b hb => ?_⟩, WF.out⟩, BF.out⟩
      · rw [← HN4.out]; exact Rd.of_own OF.out
      · exact (OF.out.lt b hb).1
      · rw [← HL.out.1]; exact Rd.of_own OP.out
      · have := (OP.out.lt b hb).1
        have := LZ.out.1
        omega

end Go.Proofs.Ytkbahhnjoidhcaa
