/- Law BlockLooks: the walk. -/
import Derived.Test.YtkbahhnjoidhcaaXs
import Derived.Test.YtkbahhnjoidhcaaXv
import Derived.Test.YtkbahhnjoidhcaaG1
namespace Go.Proofs.Ytkbahhnjoidhcaa
set_option linter.unusedVariables false
set_option linter.unusedSimpArgs false
open Go.RowKit

theorem bool_guard (w : World) (x y : Operand) {B C : Bool} : (eqGuard .eql 4 x y (.bool B) (.bool C)).run Try.prog w = .ok () w := by
  kernel_rfl
theorem bool_same (w : World) (B : Bool) : (binOp .eql 4 (.bool B) (.bool B)).run Try.prog w = .ok (.bool true) w := by
  cases B <;> kernel_rfl

/-- A struct built of parts. -/
theorem wpList_buildQ {P : Program} {ops : Array Oper} {rest : List Oper} {o : Oper} {a : Act} {w : World} {Q : Exit → Act → World → Prop} (hgd : o.guard = none) (t : TypeId) (parts : Array (Nat × Operand)) (ho : o.op = .build t parts) (ps : Array (Nat × Value)) (v : Value)
    (hp : (parts.map fun (i, x) => (i, a.eval x)) = ps) (hr : (Instr.build t ps).run P w = .ok v w)
    (h : wpList P ops Q rest (a.put o.dst v) w) : wpList P ops Q (o :: rest) a w := by
  subst hp
  refine wpList_plain hgd fun _ hK => ?_
  unfold Oper.wp execOp
  simp only [ho, hr, Sem.run_bind, Sem.run_pure, Result.andThen_ok]
  exact hK _ _ h

set_option maxRecDepth 100000 in
set_option maxHeartbeats 4000000 in
theorem blocklooks_any (F : Nat → Prop) (w : World) (x y : BlD) (va ta vb tb : Value) (hx : HdOk x.hd) (hy : HdOk y.hd) (hva : Hs w va x.hd.par) (hvb : Hs w vb y.hd.par) (hta : Txs F w ta x.txs) (htb : Txs F w tb y.txs) (hfit : BlFit x) :
    Calls Try.prog 3 #[.agg (blC x va ta).toArray, .agg (blC y vb tb).toArray] w fun e w' => e = .returned (.bool true) ∧ Below w.heap.size w w' := by
  obtain ⟨a0, c0, rfl⟩ := hva.slice
  obtain ⟨a1, c1, rfl⟩ := hta.slice
  obtain ⟨P, hP⟩ : ∃ P, P = x.hd.par.length := ⟨_, rfl⟩
  obtain ⟨N, hN⟩ : ∃ N, N = x.txs.length := ⟨_, rfl⟩
  rw [← hP] at hva
  rw [← hN] at hta
  rw [← hP, ← hN]
  have bN' : (N : Int) ≤ 9223372036854775807 := by
    obtain ⟨us, _, h, _⟩ := hta
    rw [← hN] at h
    exact rd_small' h.1
  obtain ⟨X, hX⟩ : ∃ X, X = blC x (.slice a0 P c0) (.slice a1 N c1) := ⟨_, rfl⟩
  obtain ⟨Y, hY⟩ : ∃ Y, Y = blC y vb tb := ⟨_, rfl⟩
  rw [← hX, ← hY]
  have HXY := Lib.hid (And.intro hX (And.intro hY (And.intro hx hy)))
  have HL := Lib.hid (And.intro hP (And.intro hN hfit))
  have HA := Lib.hid (And.intro hva hta)
  have HB := Lib.hid (And.intro hvb htb)
  have HXl : Hid (X.length = 131 ∧ Y.length = 131) := Lib.hid ⟨by rw [hX]; exact blC_length hx, by rw [hY]; exact blC_length hy⟩
  have HX1 : Hid ((∀ u ∈ X, u.oneCell' = true) ∧ ∀ u ∈ Y, u.oneCell' = true) := Lib.hid ⟨by rw [hX]; exact blC_one _ _ _ rfl rfl, by
    obtain ⟨_, _, e1⟩ := hvb.slice
    obtain ⟨_, _, e2⟩ := htb.slice
    rw [hY, e1, e2]
    exact blC_one _ _ _ rfl rfl⟩
  clear hX hY hx hy hP hN hfit hva hvb hta htb
  go_enter Try.func3, Try.ntmps3
  go_wp2_with (with_reducible refine stopAt 12 ?_)
  refine Stop.go ?_
  obtain ⟨w1, h1, k1, b1, s1⟩ := alloc_cb w 30 X
  obtain ⟨w2, h2, k2, b2, s2⟩ := alloc_cb w1 30 Y
  change wpList _ _ _ _ _ ((w.alloc (.cells X.toArray 30)).alloc (.cells Y.toArray 30))
  rw [← h1, ← h2]
  rw [s1] at s2 k2
  have BB := Lib.hid (b1.tr b2)
  have KX := Lib.hid (k1.fresh b2)
  have KY := Lib.hid k2
  clear h1 h2 k1 k2 b1 b2 s1 s2
  refine wpList_load_agg rfl 30 (.tmp 2) rfl ⟨w.heap.size, 0, none⟩ rfl X _ (At.block KX.out).load Try.underlying30 rfl (by rw [HXl.out.1]; exact infoBl) ?_
  go_wp2_with (with_reducible refine stopAt 13 ?_)
  refine Stop.go ?_
  refine wpList_load_agg rfl 30 (.tmp 3) rfl ⟨w.heap.size + 1, 0, none⟩ rfl Y _ (At.block KY.out).load Try.underlying30 rfl (by rw [HXl.out.2]; exact infoBl) ?_
  go_wp2_with (with_reducible refine stopAt 14 ?_)
  refine Stop.go ?_
  refine wpList_buildR rfl 32 30 2 _ rfl Try.underlying32 131 _ infoZBl (by decide) (by decide) (by decide) [X, Y] (by intro c hc; simp at hc; rcases hc with rfl | rfl; exact HXl.out.1; exact HXl.out.2) rfl (by kernel_rfl) ?_
  intro w3 r3 b3 s3
  have BL : Hid (Bls F w3 (.slice (some ⟨w2.heap.size, 0, none⟩) 2 2) [x, y]) := Lib.hid ⟨[(.slice a0 P c0, .slice a1 N c1), (vb, tb)], rfl, by intro z hz; simp at hz; rcases hz with rfl | rfl; exact HXY.out.2.2.1; exact HXY.out.2.2.2, by
    rw [HXY.out.1, HXY.out.2.1] at r3
    simpa [blZ] using r3, fun i z u hz hu => by
    have bb := BB.out.tr b3
    match i, hz, hu with
    | 0, hz, hu => simp at hz hu; subst hz hu; exact ⟨HA.out.1.fresh bb, HA.out.2.fresh bb⟩
    | 1, hz, hu => simp at hz hu; subst hz hu; exact ⟨HB.out.1.fresh bb, HB.out.2.fresh bb⟩
    | n + 2, hz, _ => simp at hz⟩
  replace KX := Lib.hid (KX.out.fresh b3)
  replace KY := Lib.hid (KY.out.fresh b3)
  replace BB := Lib.hid (BB.out.tr b3)
  clear r3 b3 s3
  go_wp2_with fail
  refine (much6_any F w3 _ [x, y] 2 BL.out).mono ?_
  rintro e w4 ⟨⟨Bm, rfl⟩, b4⟩
  replace KX := Lib.hid (KX.out.fresh b4)
  replace KY := Lib.hid (KY.out.fresh b4)
  replace BB := Lib.hid (BB.out.tr b4)
  clear b4 BL
  cases Bm
  rotate_left
  · go_wp2_with fail
    refine (known6_any w4).mono ?_
    rintro e w5 ⟨rfl, b5⟩
    have BF := Lib.hid (BB.out.tr b5)
    clear b5
    go_wp2
    go_ret
    exact ⟨rfl, BF.out⟩
  go_wp2_with (with_reducible refine stopAt 18 ?_)
  refine Stop.go ?_
  refine wpList_load_agg rfl 27 (.tmp 17) rfl ⟨w.heap.size, 0, none⟩ rfl (hdC x.hd (.slice a0 P c0)) _ (At.pre (by have h := At.block KX.out; rw [HXY.out.1] at h; exact h)).load Try.underlying27 rfl (by rw [hdC_length HXY.out.2.2.1]; exact infoHd) ?_
  go_wp2_with (with_reducible refine stopAt 19 ?_)
  refine Stop.go ?_
  refine wpList_buildQ rfl _ _ rfl #[(0, .agg (hdC x.hd (.slice a0 P c0)).toArray)] (.agg (blC x (.slice a0 P c0) (.slice none 0 0)).toArray) (by kernel_rfl) (build_block1 w4 x.hd HXY.out.2.2.1 a0 P c0) ?_
  go_wp2_with (with_reducible refine stopStore 30 ?_)
  refine Stop.go ?_
  refine wpList_store_var rfl 30 (.tmp 5) (.tmp 19) rfl w4.heap.size _ rfl _ (blC x (.slice a0 P c0) (.slice none 0 0)) rfl (heap_alloc_new w4 _) (by rw [blC_length HXY.out.2.2.1]; rfl) (blC_one _ _ _ rfl rfl) (by rw [blC_length HXY.out.2.2.1]; exact infoBl) ?_
  intro w5 k5 o5
  have b5 : Below w4.heap.size w4 w5 := Below.only ((Below.refl _ w4).alloc (Nat.le_refl _) _) o5 (Nat.le_refl _)
  obtain ⟨G, hG⟩ : ∃ g, g = w4.heap.size := ⟨_, rfl⟩
  have s5 : w5.heap.size = G + 1 := by rw [o5.size, hG]; exact Array.size_push _
  have LG : Hid (w.heap.size + 1 < G) := Lib.hid (by rw [hG]; exact KY.out.lt)
  rw [← hG] at k5 ⊢
  replace KX := Lib.hid (KX.out.fresh b5)
  replace KY := Lib.hid (KY.out.fresh b5)
  replace BB := Lib.hid (BB.out.tr b5)
  have KG : Hid (CB w5 30 G (blC x (.slice a0 P c0) (.slice none 0 0))) := Lib.hid k5
  have S5 := Lib.hid s5
  clear k5 o5 b5 hG s5
  obtain ⟨i1, hi, hz0, hz1, hz2⟩ := info_parts infoHash3
  have HINH := Lib.hid (And.intro hi (And.intro hz0 (And.intro hz1 hz2)))
  clear hi hz0 hz1 hz2
  have hc := hd_cell (At.pre (by have h := At.block KX.out; rw [HXY.out.1] at h; exact h))
  go_wp2_with (at_builtin; apply Stop.mk)
  refine Stop.go ?_
  refine wpList_append_rd _ rfl _ (.tmp 22) 22 rfl (G + 1) 24 i1 _ 32 32 Try.underlying22 HINH.out.1 HINH.out.2.1 HINH.out.2.2.1 HINH.out.2.2.2 (by simp [Value.cells]) (by decide) (.slice none 0 0) 0 [] rfl (World.ownsRow_nil _ _ _ _) (.slice a0 P c0) P (bvs x.hd.par.flatten) rfl (by have h := (HA.out.1.fresh BB.out).2; rw [← HL.out.1] at h; exact h) (bvs_one _) (by unfold maxLen; have := HL.out.1; have := HL.out.2.2.1; omega) (by have := HL.out.1; have := HL.out.2.2.1; omega) (by rw [S5.out]; exact Nat.le_refl _) ?_
  intro v6 w6 o6 g6 _ n6
  rw [Nat.zero_add, List.nil_append] at o6
  obtain ⟨ap, cp, rfl⟩ := (Rd.of_own o6).slice
  have OP := Lib.hid o6
  have b6 := Below.grown (Below.refl w5.heap.size w5) g6 (Nat.le_refl _) (fun j hj => by cases hj)
  replace KX := Lib.hid (KX.out.fresh b6)
  replace KY := Lib.hid (KY.out.fresh b6)
  replace KG := Lib.hid (KG.out.fresh b6)
  replace BB := Lib.hid (BB.out.tr b6)
  clear o6 g6 n6 b6 hc
  have hf1 : w6.frozen? ⟨G, 0, none⟩ = false := frozen_of_row w6 G 0 _ _ KG.out
  have hc1 : w6.cell? ⟨G, 0, none⟩ = some (.slice a0 P c0) := hd_cell (At.pre (At.block KG.out))
  obtain ⟨w7, hw7⟩ : ∃ w7, w7 = w6.setCell ⟨G, 0, none⟩ (.slice ap P cp) := ⟨_, rfl⟩
  have oz : Only G w6 w7 := by rw [hw7]; exact Only.setCell w6 G 0 _
  have kz := KG.out.set 0 (.slice ap P cp)
  rw [blC_set0, ← hw7] at kz
  have kx := KX.out.only oz (by have := LG.out; omega)
  have ky := KY.out.only oz (by have := LG.out; omega)
  have bz := Below.only BB.out oz (by have := LG.out; omega)
  have op := own_onlyT OP.out oz (fun e => by have := (OP.out.lt _ e).1; omega)
  have K7 := Lib.hid (And.intro bz (And.intro kx (And.intro ky (And.intro kz op))))
  have HW7 := Lib.hid hw7
  clear kz kx ky bz op oz hw7 KX KY KG BB OP S5
  obtain ⟨i2, hi, hz0, hz1, hz2⟩ := info_parts infoC_in
  have HINI := Lib.hid (And.intro hi (And.intro hz0 (And.intro hz1 hz2)))
  clear hi hz0 hz1 hz2
  obtain ⟨i3, hi, hz0, hz1, hz2⟩ := info_parts infoC_out
  have HINO := Lib.hid (And.intro hi (And.intro hz0 (And.intro hz1 hz2)))
  clear hi hz0 hz1 hz2
  obtain ⟨i4, hi, hz0, hz1, hz2⟩ := info_parts infoC_tx
  have HINT := Lib.hid (And.intro hi (And.intro hz0 (And.intro hz1 hz2)))
  clear hi hz0 hz1 hz2
  obtain ⟨us0, hlu, hru, heu⟩ := HA.out.2
  rw [← HL.out.2.1] at hlu hru
  have HR0 := Lib.hid hru.1
  have HE0 := Lib.hid heu
  have HU0 := Lib.hid hlu
  clear hlu hru heu
  go_wp2
  rw [← HW7.out]
  clear hf1 hc1
  go_loopw [6] (fun v6 wr => Below w.heap.size w wr ∧ CB wr 30 w.heap.size X ∧ CB wr 30 (w.heap.size + 1) Y ∧ wr.ownsRow (G + 1) 24 32 (.slice ap P cp) P (bvs x.hd.par.flatten) ∧ ∃ (k : Nat) (us : List (Value × Value)) (a3 : Option Addr) (c3 : Nat), k ≤ N ∧ v6 = .int .i64 (k : Int) ∧ CB wr 30 G (blC x (.slice ap P cp) (.slice a3 k c3)) ∧ OwT w F us (G + 1) wr (.slice a3 k c3) (x.txs.take k))
    (fun v _ => N - (RowKit.intOf v).toNat)
  case atStart => exact ⟨K7.out.1, K7.out.2.1, K7.out.2.2.1, K7.out.2.2.2.2, 0, [], none, 0, Nat.zero_le _, rfl, K7.out.2.2.2.1, rfl, World.ownsRow_nil _ _ _ _, fun i x u h => by simp at h, Dis.nil⟩
  case round =>
    obtain ⟨hb, hx, hy, hp, k, us, a3, c3, hk, rfl, hg, hot⟩ := hrel
    have KX := Lib.hid hx
    have KY := Lib.hid hy
    have KG := Lib.hid hg
    have BB := Lib.hid hb
    have OP := Lib.hid hp
    have OT := Lib.hid hot
    clear hb hx hy hp hg hot K7
    have hc1 : wr.cell? ⟨w.heap.size, 130, none⟩ = some (.slice a1 N c1) := bl_cell (by have h := At.block KX.out; rw [HXY.out.1] at h; exact h) HXY.out.2.2.1
    by_cases hlt : k < N
    · obtain ⟨xk, hx⟩ : ∃ z, x.txs[k]? = some z := ⟨_, List.getElem?_eq_getElem (by rw [← HL.out.2.1]; exact hlt)⟩
      obtain ⟨⟨u1, u2⟩, hu⟩ : ∃ z, us0[k]? = some z := ⟨_, List.getElem?_eq_getElem (by rw [HU0.out]; exact hlt)⟩
      obtain ⟨ad, c, he⟩ := rd_some HR0.out (by omega)
      simp only [Value.slice.injEq, true_and] at he
      obtain ⟨rfl, rfl⟩ := he
      have hz : (x.txs.zip us0)[k]? = some (xk, (u1, u2)) := by rw [List.getElem?_zip_eq_some]; exact ⟨hx, hu⟩
      obtain ⟨h1, h2⟩ := HE0.out k xk (u1, u2) hx hu
      obtain ⟨aI, cI, e1⟩ := h1.slice
      change u1 = _ at e1
      subst e1
      obtain ⟨aO, cO, e2⟩ := h2.slice
      change u2 = _ at e2
      subst e2
      obtain ⟨nI, hnI⟩ : ∃ n, n = xk.ins.length := ⟨_, rfl⟩
      obtain ⟨nO, hnO⟩ : ∃ n, n = xk.outs.length := ⟨_, rfl⟩
      rw [← hnI] at hu hz h1
      rw [← hnO] at hu hz h2
      obtain ⟨vk, hlv, hokv, hrv, hev⟩ := h1
      rw [← hnI] at hlv hrv
      change RdF F w 34 (.slice aI nI cI) nI _ at hrv
      obtain ⟨hoko, hro⟩ := h2
      rw [← hnO] at hro
      change RdF F w 33 (.slice aO nO cO) nO _ at hro
      have hf := HL.out.2.2.2.2 xk (List.mem_of_getElem? hx)
      have HB2 : Hid (nI ≤ 100000000 ∧ nO ≤ 100000000) := Lib.hid ⟨by rw [hnI]; exact hf.1, by rw [hnO]; exact hf.2.1⟩
      have HE2 := Lib.hid (And.intro hrv.1 hro.1)
      have HO2 : Hid ((∀ c ∈ (xk.ins.zip vk).flatMap inC, c.oneCell' = true) ∧ ∀ c ∈ xk.outs.flatMap outC, c.oneCell' = true) := Lib.hid ⟨flat_one inC _ (fun z hz => by
        obtain ⟨i, hi⟩ := List.getElem?_of_mem hz
        obtain ⟨z1, z2⟩ := z
        rw [List.getElem?_zip_eq_some] at hi
        obtain ⟨_, _, e⟩ := (hev i z1 z2 hi.1 hi.2).1.slice
        exact inC_one z1 z2 (by rw [e]; rfl)), flat_one outC _ (fun z _ => outC_one z)⟩
      have HV2 := Lib.hid (And.intro hlv (And.intro hev (And.intro hnI (And.intro hnO hx))))
      have HZ := Lib.hid hz
      have BB0 := Lib.hid BB.out.drew
      have hS : Hid (CB wr.drew 30 w.heap.size (blC x (.slice a0 P c0) (.slice (some ad) N c1)) ∧ CB wr.drew 30 G (blC x (.slice ap P cp) (.slice a3 k c3)) ∧ Rd wr.drew 3 (.slice (some ad) N c1) N ((x.txs.zip us0).flatMap txC)) := Lib.hid ⟨by rw [← HXY.out.1]; exact KX.out.fresh (Below.refl _ _).drew, KG.out.fresh (Below.refl _ _).drew, HR0.out.fresh BB0.out⟩
      have HK := Lib.hid hlt
      have HXo := Lib.hid HXY.out.2.2.1
      have ik : (k : Int) < (N : Int) := by omega
      clear hx hu hz hnI hnO hlv hokv hrv hev hoko hro hf hlt hk
      go_wp2_with fail
      clear hc1
      refine pf_start 27 rfl (fun w' => CB w' 30 w.heap.size (blC x (.slice a0 P c0) (.slice (some ad) N c1)) ∧ CB w' 30 G (blC x (.slice ap P cp) (.slice a3 k c3)) ∧ Rd w' 3 (.slice (some ad) N c1) N ((x.txs.zip us0).flatMap txC)) (fun i => i == 26) (by kernel_rfl) ?_
      refine pf_take (i := 0) 33 rfl rfl rfl (by kernel_rfl) (by kernel_rfl) (by kernel_rfl) (by kernel_rfl) (by kernel_rfl) (by simp [Act.put]) hS.out ?_
      apply Exists.intro
      refine And.intro (fun w' hS' => ?_) ?_
      · clear hS'
        go_wp2
        first
          | exact ⟨trivial, rfl⟩
          | exact rfl
      refine pf_take (i := 1) 34 rfl rfl rfl (by kernel_rfl) (by kernel_rfl) (by kernel_rfl) (by kernel_rfl) (by kernel_rfl) (by simp [Act.put]) hS.out ?_
      apply Exists.intro
      refine And.intro (fun w' hS' => ?_) ?_
      · have hc := bl_cell (At.block hS'.2.1) HXo.out
        clear hS'
        go_wp2
        first
          | exact ⟨trivial, rfl⟩
          | exact rfl
      refine pf_take (i := 2) 35 rfl rfl rfl (by kernel_rfl) (by kernel_rfl) (by kernel_rfl) (by kernel_rfl) (by kernel_rfl) (by simp [Act.put]) hS.out ?_
      apply Exists.intro
      refine And.intro (fun w' hS' => ?_) ?_
      · clear hS'
        go_wp2
        first
          | exact ⟨trivial, rfl⟩
          | exact rfl
      refine pf_take (i := 3) 36 rfl rfl rfl (by kernel_rfl) (by kernel_rfl) (by kernel_rfl) (by kernel_rfl) (by kernel_rfl) (by simp [Act.put]) hS.out ?_
      apply Exists.intro
      refine And.intro (fun w' hS' => ?_) ?_
      · have hc := bl_cell (At.block hS'.1) HXo.out
        clear hS'
        go_wp2
        first
          | exact ⟨trivial, rfl⟩
          | exact rfl
      refine pf_take (i := 4) 37 rfl rfl rfl (by kernel_rfl) (by kernel_rfl) (by kernel_rfl) (by kernel_rfl) (by kernel_rfl) (by simp [Act.put]) hS.out ?_
      apply Exists.intro
      refine And.intro (fun w' hS' => ?_) ?_
      · clear hS'
        go_wp2
        first
          | exact ⟨trivial, rfl⟩
          | exact rfl
      refine pf_take (i := 5) 38 rfl rfl rfl (by kernel_rfl) (by kernel_rfl) (by kernel_rfl) (by kernel_rfl) (by kernel_rfl) (by simp [Act.put]) hS.out ?_
      apply Exists.intro
      refine And.intro (fun w' hS' => ?_) ?_
      · clear hS'
        go_wp2
        first
          | exact ⟨trivial, rfl⟩
          | exact rfl
      refine pf_take (i := 6) 39 rfl rfl rfl (by kernel_rfl) (by kernel_rfl) (by kernel_rfl) (by kernel_rfl) (by kernel_rfl) (by simp [Act.put]) hS.out ?_
      apply Exists.intro
      refine And.intro (fun w' hS' => ?_) ?_
      · clear hS'
        go_wp2
        first
          | exact ⟨trivial, rfl⟩
          | exact rfl
      refine pf_take (i := 7) 40 rfl rfl rfl (by kernel_rfl) (by kernel_rfl) (by kernel_rfl) (by kernel_rfl) (by kernel_rfl) (by simp [Act.put]) hS.out ?_
      apply Exists.intro
      refine And.intro (fun w' hS' => ?_) ?_
      · have hc := hS'.2.2.at (fun z _ => rfl) HZ.out 0 _ rfl
        rw [add_zero_addr] at hc
        clear hS'
        go_wp2
        first
          | exact ⟨trivial, rfl⟩
          | exact rfl
      refine pf_take (i := 9) 42 rfl rfl rfl (by kernel_rfl) (by kernel_rfl) (by kernel_rfl) (by kernel_rfl) (by kernel_rfl) (by simp [Act.put]) hS.out ?_
      apply Exists.intro
      refine And.intro (fun w' hS' => ?_) ?_
      · clear hS'
        go_wp2
        first
          | exact ⟨trivial, rfl⟩
          | exact rfl
      refine pf_take (i := 10) 43 rfl rfl rfl (by kernel_rfl) (by kernel_rfl) (by kernel_rfl) (by kernel_rfl) (by kernel_rfl) (by simp [Act.put]) hS.out ?_
      apply Exists.intro
      refine And.intro (fun w' hS' => ?_) ?_
      · have hc := bl_cell (At.block hS'.1) HXo.out
        clear hS'
        go_wp2
        first
          | exact ⟨trivial, rfl⟩
          | exact rfl
      refine pf_take (i := 11) 44 rfl rfl rfl (by kernel_rfl) (by kernel_rfl) (by kernel_rfl) (by kernel_rfl) (by kernel_rfl) (by simp [Act.put]) hS.out ?_
      apply Exists.intro
      refine And.intro (fun w' hS' => ?_) ?_
      · clear hS'
        go_wp2
        first
          | exact ⟨trivial, rfl⟩
          | exact rfl
      refine pf_take (i := 12) 45 rfl rfl rfl (by kernel_rfl) (by kernel_rfl) (by kernel_rfl) (by kernel_rfl) (by kernel_rfl) (by simp [Act.put]) hS.out ?_
      apply Exists.intro
      refine And.intro (fun w' hS' => ?_) ?_
      · clear hS'
        go_wp2
        first
          | exact ⟨trivial, rfl⟩
          | exact rfl
      refine pf_take (i := 13) 46 rfl rfl rfl (by kernel_rfl) (by kernel_rfl) (by kernel_rfl) (by kernel_rfl) (by kernel_rfl) (by simp [Act.put]) hS.out ?_
      apply Exists.intro
      refine And.intro (fun w' hS' => ?_) ?_
      · clear hS'
        go_wp2
        first
          | exact ⟨trivial, rfl⟩
          | exact rfl
      refine pf_take (i := 14) 47 rfl rfl rfl (by kernel_rfl) (by kernel_rfl) (by kernel_rfl) (by kernel_rfl) (by kernel_rfl) (by simp [Act.put]) hS.out ?_
      apply Exists.intro
      refine And.intro (fun w' hS' => ?_) ?_
      · have hc := cell_off (hS'.2.2.at (fun z _ => rfl) HZ.out (0 + 1) _ rfl)
        clear hS'
        go_wp2
        first
          | exact ⟨trivial, rfl⟩
          | exact rfl
      refine pf_take (i := 16) 49 rfl rfl rfl (by kernel_rfl) (by kernel_rfl) (by kernel_rfl) (by kernel_rfl) (by kernel_rfl) (by simp [Act.put]) hS.out ?_
      apply Exists.intro
      refine And.intro (fun w' hS' => ?_) ?_
      · clear hS'
        go_wp2
        first
          | exact ⟨trivial, rfl⟩
          | exact rfl
      refine pf_take (i := 17) 50 rfl rfl rfl (by kernel_rfl) (by kernel_rfl) (by kernel_rfl) (by kernel_rfl) (by kernel_rfl) (by simp [Act.put]) hS.out ?_
      apply Exists.intro
      refine And.intro (fun w' hS' => ?_) ?_
      · have hc := bl_cell (At.block hS'.1) HXo.out
        clear hS'
        go_wp2
        first
          | exact ⟨trivial, rfl⟩
          | exact rfl
      refine pf_take (i := 18) 51 rfl rfl rfl (by kernel_rfl) (by kernel_rfl) (by kernel_rfl) (by kernel_rfl) (by kernel_rfl) (by simp [Act.put]) hS.out ?_
      apply Exists.intro
      refine And.intro (fun w' hS' => ?_) ?_
      · clear hS'
        go_wp2
        first
          | exact ⟨trivial, rfl⟩
          | exact rfl
      refine pf_take (i := 19) 52 rfl rfl rfl (by kernel_rfl) (by kernel_rfl) (by kernel_rfl) (by kernel_rfl) (by kernel_rfl) (by simp [Act.put]) hS.out ?_
      apply Exists.intro
      refine And.intro (fun w' hS' => ?_) ?_
      · clear hS'
        go_wp2
        first
          | exact ⟨trivial, rfl⟩
          | exact rfl
      refine pf_take (i := 20) 53 rfl rfl rfl (by kernel_rfl) (by kernel_rfl) (by kernel_rfl) (by kernel_rfl) (by kernel_rfl) (by simp [Act.put]) hS.out ?_
      apply Exists.intro
      refine And.intro (fun w' hS' => ?_) ?_
      · clear hS'
        go_wp2
        first
          | exact ⟨trivial, rfl⟩
          | exact rfl
      refine pf_take (i := 21) 54 rfl rfl rfl (by kernel_rfl) (by kernel_rfl) (by kernel_rfl) (by kernel_rfl) (by kernel_rfl) (by simp [Act.put]) hS.out ?_
      apply Exists.intro
      refine And.intro (fun w' hS' => ?_) ?_
      · have hc := cell_off (hS'.2.2.at (fun z _ => rfl) HZ.out (1 + 1) _ rfl)
        clear hS'
        go_wp2
        first
          | exact ⟨trivial, rfl⟩
          | exact rfl
      refine pf_heavy (i := 8) rfl (by kernel_rfl) ?_
      refine wpList_append_rd _ rfl _ (.tmp 40) 34 rfl wr.heap.size 44 i2 _ 34 64 Try.underlying34 HINI.out.1 HINI.out.2.1 HINI.out.2.2.1 HINI.out.2.2.2 (by rfl) (by decide) (.slice none 0 0) 0 [] rfl (World.ownsRow_nil _ _ _ _) (.slice aI nI cI) nI ((xk.ins.zip vk).flatMap inC) rfl (HE2.out.1.fresh (BB.out.tr ((Below.refl wr.heap.size wr).drew))) HO2.out.1 (by unfold maxLen; have := HB2.out; omega) (by have := HB2.out; omega) ((Below.refl wr.heap.size wr).drew).size ?_
      intro v' w8 o' g' _ n'
      rw [Nat.zero_add, List.nil_append] at o'
      obtain ⟨ai, ci, rfl⟩ := (Rd.of_own o').slice
      have OI := Lib.hid o'
      clear o' n'
      have b' := Below.grown (Below.refl (wr.drew).heap.size (wr.drew)) g' (Nat.le_refl _) (fun j hj => by cases hj)
      clear g'
      have BZ8 := Lib.hid (((Below.refl wr.heap.size wr).drew).tr b')
      have hS8 := Lib.hid (And.intro (hS.out.1.fresh b') (And.intro (hS.out.2.1.fresh b') (hS.out.2.2.fresh b')))
      clear b'
      go_wp2
      refine And.intro hS8.out ?_
      refine pf_heavy (i := 15) rfl (by kernel_rfl) ?_
      refine wpList_append_rd _ rfl _ (.tmp 47) 35 rfl wr.heap.size 46 i3 _ 33 40 Try.underlying35 HINO.out.1 HINO.out.2.1 HINO.out.2.2.1 HINO.out.2.2.2 (by rfl) (by decide) (.slice none 0 0) 0 [] rfl (World.ownsRow_nil _ _ _ _) (.slice aO nO cO) nO (xk.outs.flatMap outC) rfl (HE2.out.2.fresh (BB.out.tr (BZ8.out))) HO2.out.2 (by unfold maxLen; have := HB2.out; omega) (by have := HB2.out; omega) (BZ8.out).size ?_
      intro v' wz o' g' _ n'
      rw [Nat.zero_add, List.nil_append] at o'
      obtain ⟨av, cv, rfl⟩ := (Rd.of_own o').slice
      have OO := Lib.hid o'
      clear o' n'
      have b' := Below.grown (Below.refl (w8).heap.size (w8)) g' (Nat.le_refl _) (fun j hj => by cases hj)
      clear g'
      replace OI := Lib.hid (own_fresh OI.out b')
      have BZ := Lib.hid (BZ8.out.tr b')
      have hSz := Lib.hid (And.intro (hS8.out.1.fresh b') (And.intro (hS8.out.2.1.fresh b') (hS8.out.2.2.fresh b')))
      clear b' hS8 BZ8
      go_wp2
      refine And.intro hSz.out ?_
      refine pf_heavy (i := 22) rfl (by kernel_rfl) ?_
      go_wp2
      refine And.intro hSz.out ?_
      refine pf_heavy (i := 23) rfl (by kernel_rfl) ?_
      go_wp2
      obtain ⟨wy, hy, ky, by', sy⟩ := alloc_cb wz 37 [.slice ai nI ci, .slice av nO cv, .int .u64 xk.nonce]
      have q := Lib.hid (And.intro (hSz.out.1.fresh by') (And.intro (hSz.out.2.1.fresh by') (hSz.out.2.2.fresh by')))
      refine And.intro (by have q' := q.out; rw [hy] at q'; exact q') ?_
      change wpAnyF _ _ _ _ _ _ _ _ (World.alloc wz (.cells [Value.slice ai nI ci, Value.slice av nO cv, Value.int .u64 xk.nonce].toArray 37))
      rw [← hy]
      replace OI := Lib.hid (own_fresh OI.out by')
      replace OO := Lib.hid (own_fresh OO.out by')
      replace BZ := Lib.hid (BZ.out.tr by')
      obtain ⟨G7, hG7⟩ : ∃ g, g = wz.heap.size := ⟨_, rfl⟩
      rw [← hG7] at ky ⊢
      have hrd : Hid (Rd wy 3 (.slice (some ⟨G7, 0, none⟩) 1 1) 1 (txC (xk, (Value.slice ai nI ci, Value.slice av nO cv)))) := Lib.hid ⟨rfl, .inr ⟨_, _, rfl, Nat.le_refl _, by decide, (At.block ky).load⟩⟩
      clear hy ky by' sy hG7 hSz
      refine pf_heavy (i := 24) rfl (by kernel_rfl) ?_
      refine wpList_append_rd _ rfl (.tmp 34) (.tmp 56) 28 rfl (G + 1) 37 i4 _ 3 56 Try.underlying28 HINT.out.1 HINT.out.2.1 HINT.out.2.2.1 HINT.out.2.2.2 rfl (by decide) (.slice a3 k c3) k _ rfl (by have h := own_fresh OT.out.2.1 BZ.out; rw [List.length_take, Nat.min_eq_left (by have := HK.out; have := HL.out.2.1; omega)] at h; exact h) (.slice (some ⟨G7, 0, none⟩) 1 1) 1 _ rfl hrd.out (txC_one _ _ rfl rfl) (by unfold maxLen; have := HK.out; have := HL.out.2.1; have := HL.out.2.2.2.1; omega) (by have := HK.out; have := HL.out.2.1; have := HL.out.2.2.2.1; omega) (by have := KG.out.lt; have := BZ.out.size; omega) ?_
      intro v8 w8 o8 g8 _ gr8
      obtain ⟨a8, c8, rfl⟩ := (Rd.of_own o8).slice
      have hrow : ∀ b, (Value.slice a3 k c3).ownBlock = some b → G + 1 ≤ b ∧ b < wr.heap.size := fun b hb => OT.out.2.1.lt b hb
      have Q1 := Lib.hid ((BB.out.tr BZ.out).grown g8 (BB.out.tr BZ.out).size (fun j hj => by have := hrow j hj; have := LG.out; omega))
      have Q2 := Lib.hid ((KX.out.fresh BZ.out).grownT g8 (fun e => by have := hrow _ e; have := LG.out; omega))
      have Q3 := Lib.hid ((KY.out.fresh BZ.out).grownT g8 (fun e => by have := hrow _ e; have := LG.out; omega))
      have Q4 := Lib.hid ((KG.out.fresh BZ.out).grownT g8 (fun e => by have := hrow _ e; omega))
      have Q5 := Lib.hid (own_grownT (own_fresh OP.out BZ.out) g8 (fun b hb => own_type OP.out OT.out.2.1 (by decide) hb))
      have hkl : (x.txs.take k).length = k := by rw [List.length_take, Nat.min_eq_left (by have := HK.out; have := HL.out.2.1; omega)]
      have Q6 : Hid (OwT w F (us ++ [(.slice ai nI ci, .slice av nO cv)]) (G + 1) w8 (.slice a8 (k + 1) c8) (x.txs.take (k + 1))) := Lib.hid (by
        rw [List.take_add_one, HV2.out.2.2.2.2]
        change OwT w F _ (G + 1) w8 _ (x.txs.take k ++ [xk])
        refine OwT.grow (p := (.slice ai nI ci, .slice av nO cv)) OT.out BZ.out (by have := KG.out.lt; omega) ⟨vk, HV2.out.1.trans HV2.out.2.2.1, ?_, HV2.out.2.1⟩ ?_ g8 (by rw [hkl]; exact o8)
        · rw [← HV2.out.2.2.1]; exact OI.out
        · unfold OwO; rw [← HV2.out.2.2.2.1]; exact OO.out)
      have hSf := Lib.hid (And.intro (show CB w8 30 w.heap.size (blC x (.slice a0 P c0) (.slice (some ad) N c1)) by rw [← HXY.out.1]; exact Q2.out) (And.intro Q4.out (HR0.out.fresh Q1.out)))
      clear o8 g8 gr8 hrow hkl OT OP KX KY KG BB OI OO BZ hS q hrd
      go_wp2
      refine And.intro hSf.out ?_
      refine pf_take (i := 25) 58 rfl rfl rfl (by kernel_rfl) (by kernel_rfl) (by kernel_rfl) (by kernel_rfl) (by kernel_rfl) (by simp [Act.put]) hSf.out ?_
      apply Exists.intro
      refine And.intro (fun w' hS' => ?_) ?_
      · clear hS'
        go_wp2
        first
          | exact ⟨trivial, rfl⟩
          | exact rfl
      refine pf_last (i := 26) rfl (by kernel_rfl) (by kernel_rfl) ?_
      have hf8 : w8.frozen? ⟨G, 130, none⟩ = false := frozen_of_row w8 G 130 _ _ Q4.out
      have hc8 : w8.cell? ⟨G, 130, none⟩ = some (.slice a3 k c3) := bl_cell (At.block Q4.out) HXo.out
      go_wp2
      obtain ⟨w9, hw9⟩ : ∃ w9, w9 = w8.setCell ⟨G, 130, none⟩ (.slice a8 (k + 1) c8) := ⟨_, rfl⟩
      rw [← hw9]
      have oz : Only G w8 w9 := by rw [hw9]; exact Only.setCell w8 G 130 _
      have kz := Q4.out.set 130 (.slice a8 (k + 1) c8)
      rw [blC_set130 _ _ _ _ HXo.out, ← hw9] at kz
      have T1 := Lib.hid (Below.only Q1.out oz (by have := LG.out; omega))
      have T2 := Lib.hid (Q2.out.only oz (by have := LG.out; omega))
      have T3 := Lib.hid (Q3.out.only oz (by have := LG.out; omega))
      have T4 := Lib.hid kz
      have T5 := Lib.hid (own_onlyT Q5.out oz (fun e => by have := (Q5.out.lt _ e).1; omega))
      have T6 := Lib.hid (Q6.out.only oz (Nat.lt_succ_self _))
      clear hf8 hc8 oz kz hw9 Q1 Q2 Q3 Q4 Q5 Q6 hSf
      refine pf_done (by kernel_rfl) ?_
      go_wp2
      go_roundw
      case rel => exact ⟨T1.out, T2.out, T3.out, T5.out, k + 1, _, a8, c8, HK.out, by go_num, T4.out, T6.out⟩
      case measure => simp only [RowKit.intOf]; have := HK.out; omega
    · have ik : ¬ ((k : Int) < (N : Int)) := by omega
      have hkN : k = N := by omega
      subst hkN
      have htk : x.txs.take k = x.txs := List.take_of_length_le (by rw [← HL.out.2.1]; exact Nat.le_refl _)
      rw [htk] at OT
      have HOK := Lib.hid HA.out.2.ok
      clear hlt hk htk HR0 HE0 HU0
      go_wp2_with (with_reducible refine stopAt 59 ?_)
      refine Stop.go ?_
      clear hc1 ik
      refine wpList_load_agg rfl 30 (.tmp 5) rfl ⟨G, 0, none⟩ rfl (blC x (.slice ap P cp) (.slice a3 k c3)) _ (At.block KG.out).load Try.underlying30 rfl (by rw [blC_length HXY.out.2.2.1]; exact infoBl) ?_
      go_wp2_with fail
      refine (blcopy_any (fun _ => True) wr x (.slice ap P cp) (.slice a3 k c3) HXY.out.2.2.1 ⟨HA.out.1.1, by have h := Rd.of_own OP.out; rw [← HL.out.1]; exact h⟩ (OT.out.txs BB.out HOK.out) HL.out.2.2).mono ?_
      rintro e w10 ⟨v', t', rfl, hv', ht', b10⟩
      obtain ⟨av, cv, e⟩ := hv'.slice
      rw [← HL.out.1] at e
      subst e
      obtain ⟨at', ct, e⟩ := ht'.slice
      rw [← HL.out.2.1] at e
      subst e
      go_wp2_with (with_reducible refine stopStore 30 ?_)
      refine Stop.go ?_
      refine wpList_store_var rfl 30 (.tmp 7) (.tmp 60) rfl w10.heap.size _ rfl _ (blC x (.slice av P cv) (.slice at' k ct)) rfl (heap_alloc_new w10 _) (by rw [blC_length HXY.out.2.2.1]; rfl) (blC_one _ _ _ rfl rfl) (by rw [blC_length HXY.out.2.2.1]; exact infoBl) ?_
      intro wc k11 o11
      have b11 : Below w10.heap.size w10 wc := Below.only ((Below.refl _ w10).alloc (Nat.le_refl _) _) o11 (Nat.le_refl _)
      obtain ⟨G8, hG8⟩ : ∃ g, g = w10.heap.size := ⟨_, rfl⟩
      rw [← hG8] at k11 ⊢
      have bc := b10.tr b11
      have KXc := Lib.hid (KX.out.fresh bc)
      have KYc := Lib.hid (KY.out.fresh bc)
      have KGc := Lib.hid (KG.out.fresh bc)
      have KC : Hid (CB wc 30 G8 (blC x (.slice av P cv) (.slice at' k ct))) := Lib.hid k11
      have BBc := Lib.hid (BB.out.tr bc)
      obtain ⟨S1, hS1⟩ : ∃ s, s = wr.heap.size := ⟨_, rfl⟩
      have LTc := Lib.hid (OT.out.lt' OP.out)
      have HC := Lib.hid (And.intro (hv'.fresh b11) (ht'.fresh b11))
      have LG8 : Hid (S1 ≤ G8) := Lib.hid (by rw [hS1, hG8]; exact b10.size)
      rw [← hS1] at LTc HC
      have TI0 : Hid (TI us G S1 (.slice ap P cp) (.slice a3 k c3) P k wc wc) := Lib.hid ⟨Trn.refl _ _ _, ⟨_, own_fresh OP.out bc, bvs_okP _⟩, by
        have h := (OT.out.wk HOK.out).fresh bc
        rwa [← HL.out.2.1] at h⟩
      have HKL : Hid (P ≤ 100000000 ∧ k ≤ 100000000) := Lib.hid ⟨by rw [HL.out.1]; exact HL.out.2.2.1, by rw [HL.out.2.1]; exact HL.out.2.2.2.1⟩
      clear hv' ht' b10 b11 bc k11 o11 hG8 hS1 KX KY KG BB OP OT HOK HINH HINI HINO HINT HW7
      have bP : (P : Int) ≤ 9223372036854775807 := by have := HKL.out.1; omega
      go_wp2
      go_loopw [8] (fun v8 wz => TI us G S1 (.slice ap P cp) (.slice a3 k c3) P k wc wz ∧ ∃ j : Nat, j ≤ P ∧ v8 = .int .i64 (j : Int))
        (fun v _ => P - (RowKit.intOf v).toNat)
      case atStart => exact ⟨TI0.out, 0, Nat.zero_le _, rfl⟩
      case round =>
        obtain ⟨hti, j, hj, rfl⟩ := hrel
        have T := Lib.hid hti
        clear hti
        have hcg := hd_cell (At.pre (At.block (T.out.1.cb KGc.out (.inl (Nat.le_refl _)))))
        by_cases hlt : j < P
        · obtain ⟨g, c, z, he, hfz, hcz⟩ := T.out.par hlt
          simp only [Value.slice.injEq, true_and] at he
          obtain ⟨rfl, rfl⟩ := he
          have ij : (j : Int) < (P : Int) := by omega
          have hS : Hid (CB wr.drew 30 G (blC x (.slice (some ⟨g, 0, none⟩) P cp) (.slice a3 k c3)) ∧ wr.drew.cell? ⟨g, j * 32, none⟩ = some (.int .u8 z)) := Lib.hid ⟨T.out.drew.1.cb KGc.out (.inl (Nat.le_refl _)), hcz⟩
          have HK := Lib.hid (And.intro hlt hfz)
          clear hlt hj hfz hcz
          go_wp2_with fail
          clear hcg
          refine pf_start 11 rfl (fun w' => CB w' 30 G (blC x (.slice (some ⟨g, 0, none⟩) P cp) (.slice a3 k c3)) ∧ w'.cell? ⟨g, j * 32, none⟩ = some (.int .u8 z)) (fun i => i == 10) (by kernel_rfl) ?_
          refine pf_take (i := 0) 69 rfl rfl rfl (by kernel_rfl) (by kernel_rfl) (by kernel_rfl) (by kernel_rfl) (by kernel_rfl) (by simp [Act.put]) hS.out ?_
          apply Exists.intro
          refine And.intro (fun w' hS' => ?_) ?_
          · clear hS'
            go_wp2
            first
              | exact ⟨trivial, rfl⟩
              | exact rfl
          refine pf_take (i := 1) 70 rfl rfl rfl (by kernel_rfl) (by kernel_rfl) (by kernel_rfl) (by kernel_rfl) (by kernel_rfl) (by simp [Act.put]) hS.out ?_
          apply Exists.intro
          refine And.intro (fun w' hS' => ?_) ?_
          · clear hS'
            go_wp2
            first
              | exact ⟨trivial, rfl⟩
              | exact rfl
          refine pf_take (i := 2) 71 rfl rfl rfl (by kernel_rfl) (by kernel_rfl) (by kernel_rfl) (by kernel_rfl) (by kernel_rfl) (by simp [Act.put]) hS.out ?_
          apply Exists.intro
          refine And.intro (fun w' hS' => ?_) ?_
          · have hc := hd_cell (At.pre (At.block hS'.1))
            clear hS'
            go_wp2
            first
              | exact ⟨trivial, rfl⟩
              | exact rfl
          refine pf_take (i := 3) 72 rfl rfl rfl (by kernel_rfl) (by kernel_rfl) (by kernel_rfl) (by kernel_rfl) (by kernel_rfl) (by simp [Act.put]) hS.out ?_
          apply Exists.intro
          refine And.intro (fun w' hS' => ?_) ?_
          · clear hS'
            go_wp2
            first
              | exact ⟨trivial, rfl⟩
              | exact rfl
          refine pf_take (i := 4) 73 rfl rfl rfl (by kernel_rfl) (by kernel_rfl) (by kernel_rfl) (by kernel_rfl) (by kernel_rfl) (by simp [Act.put]) hS.out ?_
          apply Exists.intro
          refine And.intro (fun w' hS' => ?_) ?_
          · clear hS'
            go_wp2
            first
              | exact ⟨trivial, rfl⟩
              | exact rfl
          refine pf_take (i := 5) 74 rfl rfl rfl (by kernel_rfl) (by kernel_rfl) (by kernel_rfl) (by kernel_rfl) (by kernel_rfl) (by simp [Act.put]) hS.out ?_
          apply Exists.intro
          refine And.intro (fun w' hS' => ?_) ?_
          · clear hS'
            go_wp2
            first
              | exact ⟨trivial, rfl⟩
              | exact rfl
          refine pf_take (i := 6) 75 rfl rfl rfl (by kernel_rfl) (by kernel_rfl) (by kernel_rfl) (by kernel_rfl) (by kernel_rfl) (by simp [Act.put]) hS.out ?_
          apply Exists.intro
          refine And.intro (fun w' hS' => ?_) ?_
          · have hc := hS'.2
            clear hS'
            go_wp2
            first
              | exact ⟨trivial, rfl⟩
              | exact rfl
          refine pf_take (i := 7) 76 rfl rfl rfl (by kernel_rfl) (by kernel_rfl) (by kernel_rfl) (by kernel_rfl) (by kernel_rfl) (by simp [Act.put]) hS.out ?_
          apply Exists.intro
          refine And.intro (fun w' hS' => ?_) ?_
          · clear hS'
            go_wp2
            first
              | exact ⟨trivial, rfl⟩
              | exact rfl
          refine pf_free (i := 8) 77 rfl rfl rfl (by kernel_rfl) (by kernel_rfl) (by kernel_rfl) rfl (by simp [Act.put]) (fun _ => hS.out) ?_
          apply Exists.intro
          refine And.intro (fun w' => ?_) ?_
          · go_wp2
            first
              | exact ⟨trivial, rfl⟩
              | exact rfl
          refine pf_take (i := 9) 78 rfl rfl rfl (by kernel_rfl) (by kernel_rfl) (by kernel_rfl) (by kernel_rfl) (by kernel_rfl) (by simp [Act.put]) hS.out ?_
          apply Exists.intro
          refine And.intro (fun w' hS' => ?_) ?_
          · clear hS'
            go_wp2
            first
              | exact ⟨trivial, rfl⟩
              | exact rfl
          refine pf_last (i := 10) rfl (by kernel_rfl) (by kernel_rfl) ?_
          have hfz := HK.out.2
          have hfd : wr.drew.frozen? ⟨g, j * 32, none⟩ = false := hfz
          have hcz := hS.out.2
          go_wp2
          clear hfz hfd hcz
          refine pf_done (by kernel_rfl) ?_
          go_wp2
          go_roundw
          case rel => exact ⟨T.out.drew.setP LTc.out _ _, j + 1, HK.out.1, by go_num⟩
          case measure => simp only [RowKit.intOf]; have := HK.out.1; omega
        · have ij : ¬ ((j : Int) < (P : Int)) := by omega
          clear hlt hj TI0
          go_wp2
          clear hcg
          go_loopw [9] (fun v9 wr => TI us G S1 (.slice ap P cp) (.slice a3 k c3) P k wc wr ∧ ∃ i : Nat, i ≤ k ∧ v9 = .int .i64 (i : Int))
            (fun v _ => k - (RowKit.intOf v).toNat)
          case atStart => exact ⟨T.out, 0, Nat.zero_le _, rfl⟩
          case round =>
            obtain ⟨hti, i, hi, rfl⟩ := hrel
            have T := Lib.hid hti
            clear hti
            have hcg := bl_cell (At.block (T.out.1.cb KGc.out (.inl (Nat.le_refl _)))) HXY.out.2.2.1
            by_cases hlt : i < k
            · obtain ⟨⟨u1, u2⟩, hu⟩ : ∃ u, us[i]? = some u := ⟨_, List.getElem?_eq_getElem (by rw [T.out.2.2.1]; exact hlt)⟩
              obtain ⟨g3, c3', z3, he, hfz, hz0, hz1, hz2⟩ := T.out.tx hlt hu
              simp only [Value.slice.injEq, true_and] at he
              obtain ⟨rfl, rfl⟩ := he
              obtain ⟨⟨aI, mI, cI, e1⟩, ⟨aO, mO, cO, e2⟩⟩ := T.out.inpS hu
              change u1 = _ at e1
              change u2 = _ at e2
              subst e1
              subst e2
              have bI := (T.out.inp hu).1
              have bO := (T.out.outp hu).1
              have HU := Lib.hid hu
              have HK := Lib.hid hlt
              have ii : (i : Int) < (k : Int) := by omega
              clear hu hlt hi hfz hz0 hz1 hz2 z3
              go_wp2
              clear hcg
              go_loopw [10] (fun v10 wr => TI us G S1 (.slice ap P cp) (.slice (some ⟨g3, 0, none⟩) k c3) P k wc wr ∧ ∃ q : Nat, q ≤ mI ∧ v10 = .int .i64 (q : Int))
                (fun v _ => mI - (RowKit.intOf v).toNat)
              case atStart => exact ⟨T.out, 0, Nat.zero_le _, rfl⟩
              case round =>
                clear T
                obtain ⟨hti, q, hq, rfl⟩ := hrel
                have T := Lib.hid hti
                clear hti
                have hcg := bl_cell (At.block (T.out.1.cb KGc.out (.inl (Nat.le_refl _)))) HXY.out.2.2.1
                obtain ⟨_, _, z3, he, hfz, hz0, hz1, hz2⟩ := T.out.tx HK.out HU.out
                simp only [Value.slice.injEq, true_and, Option.some.injEq, Addr.mk.injEq] at he
                obtain ⟨⟨rfl, _⟩, rfl⟩ := he
                clear hfz hz1 hz2
                by_cases hlt : q < mI
                · have iq : (q : Int) < (mI : Int) := by omega
                  obtain ⟨gI, zI, rfl, hfI, hcI⟩ := (T.out.inp HU.out).2 q hlt
                  have HQ := Lib.hid hlt
                  clear hlt hq
                  go_wp2
                  clear hcg hz0 hfI hcI
                  go_roundw
                  case rel => exact ⟨T.out.setI LTc.out HU.out rfl _ _, q + 1, HQ.out, by go_num⟩
                  case measure => simp only [RowKit.intOf]; have := HQ.out; omega
                · have iq : ¬ ((q : Int) < (mI : Int)) := by omega
                  clear hlt hq
                  go_wp2
                  clear hcg hz0
                  go_loopw [11] (fun v11 wr => TI us G S1 (.slice ap P cp) (.slice (some ⟨g3, 0, none⟩) k c3) P k wc wr ∧ ∃ q : Nat, q ≤ mO ∧ v11 = .int .i64 (q : Int))
                    (fun v _ => mO - (RowKit.intOf v).toNat)
                  case atStart => exact ⟨T.out, 0, Nat.zero_le _, rfl⟩
                  case round =>
                    clear T
                    obtain ⟨hti, q, hq, rfl⟩ := hrel
                    have T := Lib.hid hti
                    clear hti
                    have hcg := bl_cell (At.block (T.out.1.cb KGc.out (.inl (Nat.le_refl _)))) HXY.out.2.2.1
                    obtain ⟨_, _, z4, he, hfz, hz0, hz1, hz2⟩ := T.out.tx HK.out HU.out
                    simp only [Value.slice.injEq, true_and, Option.some.injEq, Addr.mk.injEq] at he
                    obtain ⟨⟨rfl, _⟩, rfl⟩ := he
                    clear hz0
                    by_cases hlt : q < mO
                    · have iq : (q : Int) < (mO : Int) := by omega
                      obtain ⟨gO, zO, rfl, hfI, hcI⟩ := (T.out.outp HU.out).2 q hlt
                      have HQ := Lib.hid hlt
                      clear hlt hq hz2 hfz
                      go_wp2
                      clear hcg hz1 hfI hcI
                      go_roundw
                      case rel => exact ⟨T.out.setO LTc.out HU.out rfl _ _, q + 1, HQ.out, by go_num⟩
                      case measure => simp only [RowKit.intOf]; have := HQ.out; omega
                    · have iq : ¬ ((q : Int) < (mO : Int)) := by omega
                      have hft := hfz (i * 3 + 2)
                      clear hlt hq hfz
                      go_wp2
                      clear hcg hz1 hz2 hft
                      go_roundw
                      case rel => exact ⟨T.out.setT LTc.out _ _, i + 1, HK.out, by go_num⟩
                      case measure => simp only [RowKit.intOf]; have := HK.out; omega
            · have ii : ¬ ((i : Int) < (k : Int)) := by omega
              clear hlt hi
              go_wp2_with fail
              clear hcg ii
              have BW := Lib.hid ((BBc.out.trans (T.out.1.1.mono (by have := LG.out; omega))).drew)
              have hS : Hid (CB wr.drew 30 w.heap.size X ∧ CB wr.drew 30 (w.heap.size + 1) Y ∧ CB wr.drew 30 G8 (blC x (.slice av P cv) (.slice at' k ct))) := Lib.hid ⟨T.out.drew.1.cb KXc.out (.inl (by have := LG.out; omega)), T.out.drew.1.cb KYc.out (.inl (by have := LG.out; omega)), T.out.drew.1.cb KC.out (.inr LG8.out)⟩
              have HCw := Lib.hid (And.intro (HC.out.1.kept T.out.drew.1.kp) (HC.out.2.kept T.out.drew.1.kp))
              obtain ⟨wd, hwd⟩ : ∃ wd, wd = wr.drew := ⟨_, rfl⟩
              refine pl_start 34 rfl (fun w' => CB w' 30 w.heap.size X ∧ CB w' 30 (w.heap.size + 1) Y ∧ CB w' 30 G8 (blC x (.slice av P cv) (.slice at' k ct))) (by kernel_rfl) ?_
              rw [← hwd] at hS BW HCw ⊢
              clear hwd T HC KXc KYc KGc KC BBc
              obtain ⟨C, hC⟩ : ∃ C, C = blC x (.slice av P cv) (.slice at' k ct) := ⟨_, rfl⟩
              rw [← hC] at hS ⊢
              have HCl : Hid (C.length = 131) := Lib.hid (by rw [hC]; exact blC_length HXY.out.2.2.1)
              have C2 := rsamebl_any (fun b => S1 ≤ b) F wd x x (.slice av P cv) (.slice a0 P c0) (.slice at' k ct) (.slice a1 k c1) HXY.out.2.2.1 HXY.out.2.2.1 HCw.out.1.hs (HA.out.1.fresh BW.out) HCw.out.2 (HA.out.2.fresh BW.out)
              rw [← hC, ← HXY.out.1, decide_eq_true rfl] at C2
              replace C2 := Lib.hid C2
              clear hC HCw
              refine pl_take (i := 0) 145 rfl rfl rfl (by kernel_rfl) (by kernel_rfl) (by kernel_rfl) (by simp [Act.put]) hS.out ?_
              apply Exists.intro
              refine And.intro (fun w' hS' => ?_) ?_
              · refine wpList_load_agg rfl 30 (.tmp 7) rfl ⟨G8, 0, none⟩ rfl C _ (At.block hS'.2.2).load Try.underlying30 rfl (by rw [HCl.out]; exact infoBl) ?_
                clear hS'
                go_wp2
                first
                  | exact ⟨trivial, rfl⟩
                  | exact rfl
              refine pl_take (i := 1) 146 rfl rfl rfl (by kernel_rfl) (by kernel_rfl) (by kernel_rfl) (by simp [Act.put]) hS.out ?_
              apply Exists.intro
              refine And.intro (fun w' hS' => ?_) ?_
              · refine wpList_load_agg rfl 30 (.tmp 2) rfl ⟨w.heap.size, 0, none⟩ rfl X _ (At.block hS'.1).load Try.underlying30 rfl (by rw [HXl.out.1]; exact infoBl) ?_
                clear hS'
                go_wp2
                first
                  | exact ⟨trivial, rfl⟩
                  | exact rfl
              refine pl_heavy (i := 2) rfl (by kernel_rfl) ?_
              refine wpList_unguard' rfl ?_
              go_wp2_with fail
              refine (C2.out).mono ?_
              rintro e wa ⟨rfl, bq⟩
              replace hS := Lib.hid (And.intro (hS.out.1.fresh bq) (And.intro (hS.out.2.1.fresh bq) (hS.out.2.2.fresh bq)))
              have BWa := Lib.hid (BW.out.tr bq)
              clear bq
              go_wp2
              refine And.intro hS.out ?_
              refine pl_take (i := 3) 148 rfl rfl rfl (by kernel_rfl) (by kernel_rfl) (by kernel_rfl) (by simp [Act.put]) hS.out ?_
              apply Exists.intro
              refine And.intro (fun w' hS' => ?_) ?_
              · go_wp2
                first
                  | exact ⟨trivial, rfl⟩
                  | exact rfl
              refine pl_take (i := 4) 149 rfl rfl rfl (by kernel_rfl) (by kernel_rfl) (by kernel_rfl) (by simp [Act.put]) hS.out ?_
              apply Exists.intro
              refine And.intro (fun w' hS' => ?_) ?_
              · refine wpList_unguard' rfl ?_
                refine wpList_load_agg rfl 30 (.tmp 2) rfl ⟨w.heap.size, 0, none⟩ rfl X _ (At.block hS'.1).load Try.underlying30 rfl (by rw [HXl.out.1]; exact infoBl) ?_
                clear hS'
                go_wp2
                first
                  | exact ⟨trivial, rfl⟩
                  | exact rfl
              refine pl_take (i := 5) 150 rfl rfl rfl (by kernel_rfl) (by kernel_rfl) (by kernel_rfl) (by simp [Act.put]) hS.out ?_
              apply Exists.intro
              refine And.intro (fun w' hS' => ?_) ?_
              · refine wpList_unguard' rfl ?_
                refine wpList_load_agg rfl 30 (.tmp 3) rfl ⟨w.heap.size + 1, 0, none⟩ rfl Y _ (At.block hS'.2.1).load Try.underlying30 rfl (by rw [HXl.out.2]; exact infoBl) ?_
                clear hS'
                go_wp2
                first
                  | exact ⟨trivial, rfl⟩
                  | exact rfl
              refine pl_take (i := 7) 152 rfl rfl rfl (by kernel_rfl) (by kernel_rfl) (by kernel_rfl) (by simp [Act.put]) hS.out ?_
              apply Exists.intro
              refine And.intro (fun w' hS' => ?_) ?_
              · refine wpList_unguard' rfl ?_
                refine wpList_load_agg rfl 30 (.tmp 2) rfl ⟨w.heap.size, 0, none⟩ rfl X _ (At.block hS'.1).load Try.underlying30 rfl (by rw [HXl.out.1]; exact infoBl) ?_
                clear hS'
                go_wp2
                first
                  | exact ⟨trivial, rfl⟩
                  | exact rfl
              refine pl_take (i := 8) 153 rfl rfl rfl (by kernel_rfl) (by kernel_rfl) (by kernel_rfl) (by simp [Act.put]) hS.out ?_
              apply Exists.intro
              refine And.intro (fun w' hS' => ?_) ?_
              · refine wpList_unguard' rfl ?_
                refine wpList_load_agg rfl 30 (.tmp 3) rfl ⟨w.heap.size + 1, 0, none⟩ rfl Y _ (At.block hS'.2.1).load Try.underlying30 rfl (by rw [HXl.out.2]; exact infoBl) ?_
                clear hS'
                go_wp2
                first
                  | exact ⟨trivial, rfl⟩
                  | exact rfl
              clear C2
              obtain ⟨R, hR⟩ : ∃ R, R = decide (x = y) := ⟨_, rfl⟩
              have HR := Lib.hid hR
              clear hR
              have C6 := samebl_any F F wa x y (.slice a0 P c0) vb (.slice a1 k c1) tb HXY.out.2.2.1 HXY.out.2.2.2 (HA.out.1.fresh BWa.out) (HB.out.1.fresh BWa.out) (HA.out.2.fresh BWa.out) (HB.out.2.fresh BWa.out)
              rw [← HXY.out.1, ← HXY.out.2.1, ← HR.out] at C6
              replace C6 := Lib.hid C6
              refine pl_heavy (i := 6) rfl (by kernel_rfl) ?_
              refine wpList_unguard' rfl ?_
              go_wp2_with fail
              refine (C6.out).mono ?_
              rintro e wb ⟨rfl, bq⟩
              replace hS := Lib.hid (And.intro (hS.out.1.fresh bq) (And.intro (hS.out.2.1.fresh bq) (hS.out.2.2.fresh bq)))
              have BWb := Lib.hid (BWa.out.tr bq)
              clear bq
              go_wp2
              refine And.intro hS.out ?_
              clear C6
              have C9 := rsamebl_any F F wb x y (.slice a0 P c0) vb (.slice a1 k c1) tb HXY.out.2.2.1 HXY.out.2.2.2 (HA.out.1.fresh BWb.out) (HB.out.1.fresh BWb.out) (HA.out.2.fresh BWb.out) (HB.out.2.fresh BWb.out)
              rw [← HXY.out.1, ← HXY.out.2.1, ← HR.out] at C9
              replace C9 := Lib.hid C9
              refine pl_heavy (i := 9) rfl (by kernel_rfl) ?_
              refine wpList_unguard' rfl ?_
              go_wp2_with fail
              refine (C9.out).mono ?_
              rintro e wc9 ⟨rfl, bq⟩
              replace hS := Lib.hid (And.intro (hS.out.1.fresh bq) (And.intro (hS.out.2.1.fresh bq) (hS.out.2.2.fresh bq)))
              have BWc := Lib.hid (BWb.out.tr bq)
              clear bq
              go_wp2
              refine And.intro hS.out ?_
              clear C9
              refine pl_take (i := 10) 155 rfl rfl rfl (by kernel_rfl) (by kernel_rfl) (by kernel_rfl) (by simp [Act.put]) hS.out ?_
              apply Exists.intro
              refine And.intro (fun w' hS' => ?_) ?_
              · refine wpList_unguard' rfl ?_
                refine wpList_bin rfl .eql 4 4 (.tmp 151) (.tmp 154) rfl (.bool true) (bool_guard _ _ _) (bool_same _ _) ?_
                clear hS'
                go_wp2
                exact ⟨trivial, rfl⟩
              refine pl_take (i := 11) 156 rfl rfl rfl (by kernel_rfl) (by kernel_rfl) (by kernel_rfl) (by simp [Act.put]) hS.out ?_
              apply Exists.intro
              refine And.intro (fun w' hS' => ?_) ?_
              · go_wp2
                first
                  | exact ⟨trivial, rfl⟩
                  | exact rfl
              refine pl_take (i := 12) 157 rfl rfl rfl (by kernel_rfl) (by kernel_rfl) (by kernel_rfl) (by simp [Act.put]) hS.out ?_
              apply Exists.intro
              refine And.intro (fun w' hS' => ?_) ?_
              · go_wp2
                first
                  | exact ⟨trivial, rfl⟩
                  | exact rfl
              refine pl_take (i := 13) 158 rfl rfl rfl (by kernel_rfl) (by kernel_rfl) (by kernel_rfl) (by simp [Act.put]) hS.out ?_
              apply Exists.intro
              refine And.intro (fun w' hS' => ?_) ?_
              · refine wpList_unguard' rfl ?_
                clear hS'
                go_wp2
                first
                  | exact ⟨trivial, rfl⟩
                  | exact rfl
              refine pl_take (i := 14) 159 rfl rfl rfl (by kernel_rfl) (by kernel_rfl) (by kernel_rfl) (by simp [Act.put]) hS.out ?_
              apply Exists.intro
              refine And.intro (fun w' hS' => ?_) ?_
              · refine wpList_unguard' rfl ?_
                refine wpList_load_agg rfl 27 (.tmp 158) rfl ⟨w.heap.size, 0, none⟩ rfl (hdC x.hd (.slice a0 P c0)) _ (At.pre (by have h := At.block hS'.1; rw [HXY.out.1] at h; exact h)).load Try.underlying27 rfl (by rw [hdC_length HXY.out.2.2.1]; exact infoHd) ?_
                clear hS'
                go_wp2
                first
                  | exact ⟨trivial, rfl⟩
                  | exact rfl
              refine pl_take (i := 15) 160 rfl rfl rfl (by kernel_rfl) (by kernel_rfl) (by kernel_rfl) (by simp [Act.put]) hS.out ?_
              apply Exists.intro
              refine And.intro (fun w' hS' => ?_) ?_
              · refine wpList_unguard' rfl ?_
                clear hS'
                go_wp2
                first
                  | exact ⟨trivial, rfl⟩
                  | exact rfl
              refine pl_take (i := 16) 161 rfl rfl rfl (by kernel_rfl) (by kernel_rfl) (by kernel_rfl) (by simp [Act.put]) hS.out ?_
              apply Exists.intro
              refine And.intro (fun w' hS' => ?_) ?_
              · refine wpList_unguard' rfl ?_
                refine wpList_load_agg rfl 27 (.tmp 160) rfl ⟨w.heap.size + 1, 0, none⟩ rfl (hdC y.hd vb) _ (At.pre (by have h := At.block hS'.2.1; rw [HXY.out.2.1] at h; exact h)).load Try.underlying27 rfl (by rw [hdC_length HXY.out.2.2.2]; exact infoHd) ?_
                clear hS'
                go_wp2
                first
                  | exact ⟨trivial, rfl⟩
                  | exact rfl
              refine pl_take (i := 18) 163 rfl rfl rfl (by kernel_rfl) (by kernel_rfl) (by kernel_rfl) (by simp [Act.put]) hS.out ?_
              apply Exists.intro
              refine And.intro (fun w' hS' => ?_) ?_
              · refine wpList_unguard' rfl ?_
                clear hS'
                go_wp2
                first
                  | exact ⟨trivial, rfl⟩
                  | exact rfl
              refine pl_take (i := 19) 164 rfl rfl rfl (by kernel_rfl) (by kernel_rfl) (by kernel_rfl) (by simp [Act.put]) hS.out ?_
              apply Exists.intro
              refine And.intro (fun w' hS' => ?_) ?_
              · refine wpList_unguard' rfl ?_
                refine wpList_load_agg rfl 27 (.tmp 163) rfl ⟨w.heap.size, 0, none⟩ rfl (hdC x.hd (.slice a0 P c0)) _ (At.pre (by have h := At.block hS'.1; rw [HXY.out.1] at h; exact h)).load Try.underlying27 rfl (by rw [hdC_length HXY.out.2.2.1]; exact infoHd) ?_
                clear hS'
                go_wp2
                first
                  | exact ⟨trivial, rfl⟩
                  | exact rfl
              refine pl_take (i := 20) 165 rfl rfl rfl (by kernel_rfl) (by kernel_rfl) (by kernel_rfl) (by simp [Act.put]) hS.out ?_
              apply Exists.intro
              refine And.intro (fun w' hS' => ?_) ?_
              · refine wpList_unguard' rfl ?_
                clear hS'
                go_wp2
                first
                  | exact ⟨trivial, rfl⟩
                  | exact rfl
              refine pl_take (i := 21) 166 rfl rfl rfl (by kernel_rfl) (by kernel_rfl) (by kernel_rfl) (by simp [Act.put]) hS.out ?_
              apply Exists.intro
              refine And.intro (fun w' hS' => ?_) ?_
              · refine wpList_unguard' rfl ?_
                refine wpList_load_agg rfl 27 (.tmp 165) rfl ⟨w.heap.size + 1, 0, none⟩ rfl (hdC y.hd vb) _ (At.pre (by have h := At.block hS'.2.1; rw [HXY.out.2.1] at h; exact h)).load Try.underlying27 rfl (by rw [hdC_length HXY.out.2.2.2]; exact infoHd) ?_
                clear hS'
                go_wp2
                first
                  | exact ⟨trivial, rfl⟩
                  | exact rfl
              clear HR
              obtain ⟨R2, hR⟩ : ∃ R2, R2 = decide (x.hd = y.hd) := ⟨_, rfl⟩
              have HR := Lib.hid hR
              clear hR
              have C6 := samehd_any wc9 x.hd y.hd (.slice a0 P c0) vb HXY.out.2.2.1 HXY.out.2.2.2 (HA.out.1.fresh BWc.out) (HB.out.1.fresh BWc.out)
              rw [← HR.out] at C6
              replace C6 := Lib.hid C6
              refine pl_heavy (i := 17) rfl (by kernel_rfl) ?_
              refine wpList_unguard' rfl ?_
              go_wp2_with fail
              refine (C6.out).mono ?_
              rintro e wd1 ⟨rfl, bq⟩
              replace hS := Lib.hid (And.intro (hS.out.1.fresh bq) (And.intro (hS.out.2.1.fresh bq) (hS.out.2.2.fresh bq)))
              have BWd := Lib.hid (BWc.out.tr bq)
              clear bq
              go_wp2
              refine And.intro hS.out ?_
              clear C6
              have C9 := rsamehd_any wd1 x.hd y.hd (.slice a0 P c0) vb HXY.out.2.2.1 HXY.out.2.2.2 (HA.out.1.fresh BWd.out) (HB.out.1.fresh BWd.out)
              rw [← HR.out] at C9
              replace C9 := Lib.hid C9
              refine pl_heavy (i := 22) rfl (by kernel_rfl) ?_
              refine wpList_unguard' rfl ?_
              go_wp2_with fail
              refine (C9.out).mono ?_
              rintro e we ⟨rfl, bq⟩
              replace hS := Lib.hid (And.intro (hS.out.1.fresh bq) (And.intro (hS.out.2.1.fresh bq) (hS.out.2.2.fresh bq)))
              have BWe := Lib.hid (BWd.out.tr bq)
              clear bq
              go_wp2
              refine And.intro hS.out ?_
              clear C9
              refine pl_take (i := 23) 168 rfl rfl rfl (by kernel_rfl) (by kernel_rfl) (by kernel_rfl) (by simp [Act.put]) hS.out ?_
              apply Exists.intro
              refine And.intro (fun w' hS' => ?_) ?_
              · refine wpList_unguard' rfl ?_
                refine wpList_bin rfl .eql 4 4 (.tmp 162) (.tmp 167) rfl (.bool true) (bool_guard _ _ _) (bool_same _ _) ?_
                clear hS'
                go_wp2
                exact ⟨trivial, rfl⟩
              refine pl_take (i := 24) 169 rfl rfl rfl (by kernel_rfl) (by kernel_rfl) (by kernel_rfl) (by simp [Act.put]) hS.out ?_
              apply Exists.intro
              refine And.intro (fun w' hS' => ?_) ?_
              · go_wp2
                first
                  | exact ⟨trivial, rfl⟩
                  | exact rfl
              refine pl_take (i := 25) 170 rfl rfl rfl (by kernel_rfl) (by kernel_rfl) (by kernel_rfl) (by simp [Act.put]) hS.out ?_
              apply Exists.intro
              refine And.intro (fun w' hS' => ?_) ?_
              · go_wp2
                first
                  | exact ⟨trivial, rfl⟩
                  | exact rfl
              refine pl_take (i := 26) 171 rfl rfl rfl (by kernel_rfl) (by kernel_rfl) (by kernel_rfl) (by simp [Act.put]) hS.out ?_
              apply Exists.intro
              refine And.intro (fun w' hS' => ?_) ?_
              · refine wpList_unguard' rfl ?_
                refine wpList_load_agg rfl 30 (.tmp 2) rfl ⟨w.heap.size, 0, none⟩ rfl X _ (At.block hS'.1).load Try.underlying30 rfl (by rw [HXl.out.1]; exact infoBl) ?_
                clear hS'
                go_wp2
                first
                  | exact ⟨trivial, rfl⟩
                  | exact rfl
              refine pl_take (i := 27) 172 rfl rfl rfl (by kernel_rfl) (by kernel_rfl) (by kernel_rfl) (by simp [Act.put]) hS.out ?_
              apply Exists.intro
              refine And.intro (fun w' hS' => ?_) ?_
              · refine wpList_unguard' rfl ?_
                refine wpList_load_agg rfl 30 (.tmp 2) rfl ⟨w.heap.size, 0, none⟩ rfl X _ (At.block hS'.1).load Try.underlying30 rfl (by rw [HXl.out.1]; exact infoBl) ?_
                clear hS'
                go_wp2
                first
                  | exact ⟨trivial, rfl⟩
                  | exact rfl
              clear HR
              have C2 := samebl_any F F we x x (.slice a0 P c0) (.slice a0 P c0) (.slice a1 k c1) (.slice a1 k c1) HXY.out.2.2.1 HXY.out.2.2.1 (HA.out.1.fresh BWe.out) (HA.out.1.fresh BWe.out) (HA.out.2.fresh BWe.out) (HA.out.2.fresh BWe.out)
              rw [← HXY.out.1, decide_eq_true rfl] at C2
              replace C2 := Lib.hid C2
              refine pl_heavy (i := 28) rfl (by kernel_rfl) ?_
              refine wpList_unguard' rfl ?_
              go_wp2_with fail
              refine (C2.out).mono ?_
              rintro e wf1 ⟨rfl, bq⟩
              replace hS := Lib.hid (And.intro (hS.out.1.fresh bq) (And.intro (hS.out.2.1.fresh bq) (hS.out.2.2.fresh bq)))
              have BWf := Lib.hid (BWe.out.tr bq)
              clear bq
              go_wp2
              refine And.intro hS.out ?_
              clear C2
              refine pl_take (i := 29) 174 rfl rfl rfl (by kernel_rfl) (by kernel_rfl) (by kernel_rfl) (by simp [Act.put]) hS.out ?_
              apply Exists.intro
              refine And.intro (fun w' hS' => ?_) ?_
              · go_wp2
                first
                  | exact ⟨trivial, rfl⟩
                  | exact rfl
              refine pl_take (i := 30) 175 rfl rfl rfl (by kernel_rfl) (by kernel_rfl) (by kernel_rfl) (by simp [Act.put]) hS.out ?_
              apply Exists.intro
              refine And.intro (fun w' hS' => ?_) ?_
              · go_wp2
                first
                  | exact ⟨trivial, rfl⟩
                  | exact rfl
              refine pl_heavy (i := 31) rfl (by kernel_rfl) ?_
              refine wpList_unguard' rfl ?_
              go_wp2_with fail
              refine (known6_any wf1).mono ?_
              rintro e wg ⟨rfl, bq⟩
              replace hS := Lib.hid (And.intro (hS.out.1.fresh bq) (And.intro (hS.out.2.1.fresh bq) (hS.out.2.2.fresh bq)))
              have BWg := Lib.hid (BWf.out.tr bq)
              clear bq
              go_wp2
              refine And.intro hS.out ?_
              refine pl_take (i := 32) 177 rfl rfl rfl (by kernel_rfl) (by kernel_rfl) (by kernel_rfl) (by simp [Act.put]) hS.out ?_
              apply Exists.intro
              refine And.intro (fun w' hS' => ?_) ?_
              · go_wp2
                first
                  | exact ⟨trivial, rfl⟩
                  | exact rfl
              refine pl_take (i := 33) 4 rfl rfl rfl (by kernel_rfl) (by kernel_rfl) (by kernel_rfl) (by simp [Act.put]) hS.out ?_
              apply Exists.intro
              refine And.intro (fun w' hS' => ?_) ?_
              · go_wp2
                first
                  | exact ⟨trivial, rfl⟩
                  | exact rfl
              refine pl_done (by kernel_rfl) ?_
              go_wp2
              go_ret
              exact ⟨rfl, BWg.out⟩

end Go.Proofs.Ytkbahhnjoidhcaa
