/- A block pressed into a state: the chapter's. -/
import Derived.Test.YtkbahhnjoidhcaaG2
import Derived.Test.YtkbahhnjoidhcaaG1
import Derived.StillTailTactics
import Derived.WalkSmall
namespace Go.Proofs.Ytkbahhnjoidhcaa
set_option linter.unusedVariables false
set_option linter.unusedSimpArgs false
open Go.RowKit Go.Lib

theorem wpList_build {P : Program} {ops : Array Oper} {rest : List Oper} {o : Oper} {a : Act} {w : World} {Q : Exit → Act → World → Prop} (hgd : o.guard = none) (t : TypeId) (parts : Array (Nat × Operand)) (ho : o.op = .build t parts) (v : Value)
    (hr : (Instr.build t (parts.map fun (i, x) => (i, a.eval x))).run P w = .ok v w)
    (h : wpList P ops Q rest (a.put o.dst v) w) : wpList P ops Q (o :: rest) a w := by
  refine wpList_plain hgd fun _ hK => ?_
  unfold Oper.wp execOp
  simp only [ho, hr, Sem.run_bind, Sem.run_pure, Result.andThen_ok]
  exact hK _ _ h

set_option maxRecDepth 100000 in
theorem rconsts_any (w : World) :
    Calls Try.prog 93 #[] w fun e w' => e = .returned (.agg (wds KS).toArray) ∧ Below w.heap.size w w' := by
  go_enter Try.func93, Try.ntmps93
  go_wp2_with (with_reducible refine stopAt 1 ?_)
  refine Stop.go ?_
  refine wpList_build rfl _ _ rfl (.agg (wds KS).toArray) (by kernel_rfl) ?_
  obtain ⟨K, hK⟩ : ∃ k, k = wds KS := ⟨_, rfl⟩
  have hKl : K.length = 64 := by rw [hK]; rfl
  have hK1 : ∀ u ∈ K, u.oneCell' = true := by rw [hK]; exact wds_one _
  rw [← hK]
  have HK := Lib.hid hK
  clear hK
  obtain ⟨wa, ha, hak, hab, has⟩ := alloc_cb w 128 (wds (List.replicate 64 0))
  change wpList _ _ _ _ _ (w.alloc (.cells (wds (List.replicate 64 0)).toArray 128))
  rw [← ha]
  clear ha
  go_wp2_with (with_reducible refine stopStore 128 ?_)
  refine Stop.go ?_
  refine wpList_store_var rfl 128 (.tmp 0) (.tmp 1) rfl w.heap.size _ rfl _ K rfl hak (by simp [hKl]) hK1 (by rw [hKl]; exact infoW64) ?_
  intro w9 hb9 ho9
  have HB9 := Lib.hid hb9
  have HBL := Lib.hid (Below.only hab ho9 (Nat.le_refl _))
  clear hb9 ho9 hak hab has
  go_wp2
  exact bodyPost_ret (results_cell1 rfl _ _ w.heap.size _ _ _ _ rfl HB9.out Try.underlying128 rfl (by simp [hKl, infoW64])) rfl ⟨by rw [HK.out], HBL.out⟩
set_option maxRecDepth 100000 in
theorem rstarts_any (w : World) :
    Calls Try.prog 67 #[] w fun e w' => e = .returned (.agg (wds S0.l).toArray) ∧ Below w.heap.size w w' := by
  go_enter Try.func67, Try.ntmps67
  go_wp2_with (with_reducible refine stopAt 1 ?_)
  refine Stop.go ?_
  refine wpList_build rfl _ _ rfl (.agg (wds S0.l).toArray) (by kernel_rfl) ?_
  obtain ⟨K, hK⟩ : ∃ k, k = wds S0.l := ⟨_, rfl⟩
  have hKl : K.length = 8 := by rw [hK]; rfl
  have hK1 : ∀ u ∈ K, u.oneCell' = true := by rw [hK]; exact wds_one _
  rw [← hK]
  have HK := Lib.hid hK
  clear hK
  obtain ⟨wa, ha, hak, hab, has⟩ := alloc_cb w 99 (wds (List.replicate 8 0))
  change wpList _ _ _ _ _ (w.alloc (.cells (wds (List.replicate 8 0)).toArray 99))
  rw [← ha]
  clear ha
  go_wp2_with (with_reducible refine stopStore 99 ?_)
  refine Stop.go ?_
  refine wpList_store_var rfl 99 (.tmp 0) (.tmp 1) rfl w.heap.size _ rfl _ K rfl hak (by simp [hKl]) hK1 (by rw [hKl]; exact infoW8) ?_
  intro w9 hb9 ho9
  have HB9 := Lib.hid hb9
  have HBL := Lib.hid (Below.only hab ho9 (Nat.le_refl _))
  clear hb9 ho9 hak hab has
  go_wp2
  exact bodyPost_ret (results_cell1 rfl _ _ w.heap.size _ _ _ _ rfl HB9.out Try.underlying99 rfl (by simp [hKl, infoW8])) rfl ⟨by rw [HK.out], HBL.out⟩
theorem St.add_comm (s t : St) : s.add t = t.add s := by
  unfold St.add
  simp only [BitVec.add_comm]

theorem infoB64 : (Try.prog.info? 101).map (·.size) = some 64 := by kernel_rfl

/-- The words so far. -/
def schedR (b : List UInt8) (i : Nat) : List W32 := if i ≤ 16 then words b i else growW (words b 16) (i - 16)

theorem schedR_length (b : List UInt8) (i : Nat) : (schedR b i).length = i := by
  unfold schedR
  split
  · simp
  · simp; omega

theorem schedR_word (b : List UInt8) (i : Nat) (h : i < 16) : schedR b (i + 1) = schedR b i ++ [word4 (b.getD (4 * i) 0) (b.getD (4 * i + 1) 0) (b.getD (4 * i + 2) 0) (b.getD (4 * i + 3) 0)] := by
  unfold schedR
  rw [if_pos (by omega), if_pos (by omega)]
  rfl

theorem schedR_next (b : List UInt8) (i : Nat) (h : 16 ≤ i) : schedR b (i + 1) = schedR b i ++ [nextW (schedR b i)] := by
  have h1 : schedR b i = growW (words b 16) (i - 16) := by
    unfold schedR
    split
    · have : i = 16 := by omega
      subst this
      rfl
    · rfl
  rw [h1]
  unfold schedR
  rw [if_neg (by omega), show i + 1 - 16 = (i - 16) + 1 by omega]
  rfl

/-- A word is put behind those that are there. -/
theorem put_behind {wr : World} {t : TypeId} {b i : Nat} {L : List W32} (hl : L.length = i) (hi : i < 64) (h : CB wr t b (wds (L ++ List.replicate (64 - i) 0))) (x : W32) (v : Int) (hv : v = (x.toNat : Int)) :
    CB (wr.setCell ⟨b, i, none⟩ (.int .u32 v)) t b (wds ((L ++ [x]) ++ List.replicate (64 - (i + 1)) 0)) := by
  subst hv
  have h1 := h.set i (wd x)
  rw [wds_set, show 64 - i = (64 - (i + 1)) + 1 by omega] at h1
  have h2 := set_next L (64 - (i + 1)) x
  rw [hl] at h2
  rw [h2] at h1
  exact h1

set_option maxRecDepth 100000 in
set_option maxHeartbeats 1600000 in
theorem rpress_any (w : World) (s : St) (l : List UInt8) (hl : l.length = 64) :
    Calls Try.prog 68 #[.agg (wds s.l).toArray, .agg (bvs l).toArray] w fun e w' => e = .returned (.agg (wds (pressS KS s l).l).toArray) ∧ Below w.heap.size w w' := by
  have CK := Lib.hid (fun w0 => rconsts_any w0)
  obtain ⟨ks, hks⟩ : ∃ k, k = KS := ⟨_, rfl⟩
  have hkl : ks.length = 64 := by rw [hks]; rfl
  rw [← hks] at CK ⊢
  clear hks
  go_enter Try.func68, Try.ntmps68
  go_wp2_with fail
  obtain ⟨wa, ha, hak, hab, has⟩ := alloc_cb w 99 (wds s.l)
  obtain ⟨wb, hb, hbs, hbb, hbz⟩ := alloc_cb wa 101 (bvs l)
  obtain ⟨wc, hc, hcr, hcb, hcz⟩ := alloc_cb wb 99 (wds (List.replicate 8 0))
  change Calls _ _ _ (((w.alloc (.cells (wds s.l).toArray 99)).alloc (.cells (bvs l).toArray 101)).alloc (.cells (wds (List.replicate 8 0)).toArray 99)) _
  rw [← ha, ← hb, ← hc]
  rw [has] at hbz hbs
  rw [hbz] at hcz hcr
  refine (CK.out wc).mono ?_
  rintro e w1 ⟨rfl, hbk⟩
  have hS1 : CB w1 99 w.heap.size (wds s.l) := ((hak.fresh hbb).fresh hcb).fresh hbk
  have hL1 : CB w1 101 (w.heap.size + 1) (bvs l) := (hbs.fresh hcb).fresh hbk
  have hR1 : CB w1 99 (w.heap.size + 1 + 1) (wds (List.replicate 8 0)) := hcr.fresh hbk
  have hB1 : Below w.heap.size w w1 := ((hab.trans (hbb.mono hab.size)).trans (hcb.mono (by omega))).trans (hbk.mono (by omega))
  have hz1 : w.heap.size + 1 + 1 + 1 ≤ w1.heap.size := by have := hbk.size; omega
  obtain ⟨N, hN⟩ : ∃ N, N = w.heap.size := ⟨_, rfl⟩
  rw [← hN] at hS1 hL1 hR1 hB1 hz1 ⊢
  have HS1 := Lib.hid hS1
  have HL1 := Lib.hid hL1
  have HR1 := Lib.hid hR1
  have HB1 := Lib.hid hB1
  have HN := Lib.hid hN
  clear ha hb hc hak hab has hbs hbb hbz hcr hcb hcz hbk hS1 hL1 hR1 hB1 hN CK
  obtain ⟨G, hG⟩ : ∃ G, G = w1.heap.size := ⟨_, rfl⟩
  go_wp2_with (with_reducible refine stopStore 128 ?_)
  refine Stop.go ?_
  obtain ⟨wa, ha, hak, hab, has⟩ := alloc_cb w1 128 (wds (List.replicate 64 0))
  change wpList _ _ _ _ _ (w1.alloc (.cells (wds (List.replicate 64 0)).toArray 128))
  rw [← ha]
  rw [← hG] at hak has hab ⊢
  clear ha
  refine wpList_store_var rfl 128 (.tmp 5) (.tmp 17) rfl G _ rfl _ (wds ks) rfl hak (by simp [wds_length, hkl]) (wds_one _) (by rw [wds_length, hkl]; exact infoW64) ?_
  intro w2 hb2 ho2
  have hK2 : CB w2 128 G (wds ks) := hb2
  have hB2 : Below G w1 w2 := Below.only hab ho2 (Nat.le_refl _)
  have hz2 : w2.heap.size = G + 1 := by rw [ho2.size, has]
  have HK2 := Lib.hid hK2
  have HB2 := Lib.hid hB2
  have HZ2 := Lib.hid hz2
  have hGN : N + 1 + 1 + 1 ≤ G := by omega
  clear hb2 ho2 hK2 hB2 hak hab has hG hz1
  go_wp2_with (with_reducible refine stopAt 6 ?_)
  refine Stop.go ?_
  go_wp2
  obtain ⟨w3, hw3, h3k, h3b, h3z⟩ := alloc_cb w2 128 (wds (List.replicate 64 0))
  change Code.wp _ _ _ _ (w2.alloc (.cells (wds (List.replicate 64 0)).toArray 128))
  rw [← hw3]
  clear hw3
  rw [hz2] at h3k h3z
  have HK3 := Lib.hid (HK2.out.fresh h3b)
  have HB3 := Lib.hid (HB2.out.trans (h3b.mono (by omega)))
  have HW3 := Lib.hid h3k
  have HZ3 := Lib.hid h3z
  clear HK2 HB2 HZ2 hz2 h3k h3b h3z
  go_loopw [7] (fun v7 wr => ∃ i : Nat, i ≤ 64 ∧ v7 = .int .i64 (i : Int) ∧ CB wr 128 (G + 1) (wds (schedR l i ++ List.replicate (64 - i) 0)) ∧ Below (G + 1) w3 wr)
    (fun v _ => 64 - (intOf v).toNat)
  case atStart => exact ⟨0, by omega, rfl, HW3.out, Below.refl _ _⟩
  case round =>
    obtain ⟨i, hi, rfl, hcw, hb⟩ := hrel
    have Hcw := Lib.hid hcw; clear hcw
    have Hb := Lib.hid hb; clear hb
    by_cases hlt : i < 64
    · by_cases hlo : i < 16
      · have hL := (HL1.out.below HB3.out (by omega)).below Hb.out (by omega)
        have F : ∀ j, j < 64 → wr.cell? ⟨N + 1, j, none⟩ = some (.int .u8 (((l.getD j 0).toNat : Nat) : Int)) := by
          intro j hj
          exact hL.cell j (bv (l.getD j 0)) (by simp [bvs, List.getD_eq_getElem?_getD, hl, hj])
        obtain ⟨m0, e0⟩ : ∃ m, m = 4 * i := ⟨_, rfl⟩
        obtain ⟨m1, e1⟩ : ∃ m, m = m0 + 1 := ⟨_, rfl⟩
        obtain ⟨m2, e2⟩ : ∃ m, m = m0 + 2 := ⟨_, rfl⟩
        obtain ⟨m3, e3⟩ : ∃ m, m = m0 + 3 := ⟨_, rfl⟩
        obtain ⟨x0, y0⟩ : ∃ x, x = l.getD m0 0 := ⟨_, rfl⟩
        obtain ⟨x1, y1⟩ : ∃ x, x = l.getD m1 0 := ⟨_, rfl⟩
        obtain ⟨x2, y2⟩ : ∃ x, x = l.getD m2 0 := ⟨_, rfl⟩
        obtain ⟨x3, y3⟩ : ∃ x, x = l.getD m3 0 := ⟨_, rfl⟩
        obtain ⟨n0, z0⟩ : ∃ n, n = x0.toNat := ⟨_, rfl⟩
        obtain ⟨n1, z1⟩ : ∃ n, n = x1.toNat := ⟨_, rfl⟩
        obtain ⟨n2, z2⟩ : ∃ n, n = x2.toNat := ⟨_, rfl⟩
        obtain ⟨n3, z3⟩ : ∃ n, n = x3.toNat := ⟨_, rfl⟩
        have f0 := F m0 (by omega)
        rw [← y0, ← z0] at f0
        have f1 := F m1 (by omega)
        rw [← y1, ← z1] at f1
        have f2 := F m2 (by omega)
        rw [← y2, ← z2] at f2
        have f3 := F m3 (by omega)
        rw [← y3, ← z3] at f3
        have g0 : IntKind.i64.wrap (4 * (i : Int)) = (m0 : Int) := by rw [IntKind.wrap_i64]; omega
        have g1 : IntKind.i64.wrap ((m0 : Int) + 1) = (m1 : Int) := by rw [IntKind.wrap_i64]; omega
        have g2 : IntKind.i64.wrap ((m0 : Int) + 2) = (m2 : Int) := by rw [IntKind.wrap_i64]; omega
        have g3 : IntKind.i64.wrap ((m0 : Int) + 3) = (m3 : Int) := by rw [IntKind.wrap_i64]; omega
        have b0 : (m0 : Int) < 64 := by omega
        have b1 : (m1 : Int) < 64 := by omega
        have b2 : (m2 : Int) < 64 := by omega
        have b3 : (m3 : Int) < 64 := by omega
        have bk : (i : Int) < 64 := by omega
        have c0 := x0.toNat_lt
        rw [← z0] at c0
        have c1 := x1.toNat_lt
        rw [← z1] at c1
        have c2 := x2.toNat_lt
        rw [← z2] at c2
        have c3 := x3.toNat_lt
        rw [← z3] at c3
        have E := Lib.hid (And.intro e0 (And.intro e1 (And.intro e2 e3)))
        have Y := Lib.hid (And.intro y0 (And.intro y1 (And.intro y2 y3)))
        have Z := Lib.hid (And.intro z0 (And.intro z1 (And.intro z2 z3)))
        have bi16 : (i : Int) < 16 := by omega
        clear e0 e1 e2 e3 y0 y1 y2 y3 z0 z1 z2 z3 F hL
        go_wp2_with fail
        go_still_tail 31, (by kernel_rfl)
        change wpList _ _ _ _ _ wr.drew
        have hcl := Hcw.out.cell i (wd 0) (wds_zero _ _ _ (by rw [schedR_length]; omega) (by rw [schedR_length]; omega))
        have hfz := Hcw.out.free i
        unfold wd at hcl
        go_wp2
        go_roundw
        case rel =>
          refine ⟨i + 1, by omega, by go_num, ?_, ?_⟩
          · obtain ⟨z0, z1, z2, z3⟩ := Z.out
            obtain ⟨y0, y1, y2, y3⟩ := Y.out
            obtain ⟨e0, e1, e2, e3⟩ := E.out
            rw [schedR_word l i hlo]
            refine CB.drew (put_behind (schedR_length l i) hlt Hcw.out _ _ ?_)
            rw [word4_toNat, z0, z1, z2, z3, y0, y1, y2, y3, e1, e2, e3, e0]
            omega
          · exact (Hb.out.setCell (Nat.le_refl _) _).drew
        case measure =>
          simp only [intOf]
          omega
      · have hi16 : 16 ≤ i := by omega
        have hlen : (schedR l i).length = i := schedR_length l i
        obtain ⟨M, hM⟩ : ∃ M, M = schedR l i := ⟨_, rfl⟩
        obtain ⟨i15, e15⟩ : ∃ m, m = i - 15 := ⟨_, rfl⟩
        obtain ⟨i16, e16⟩ : ∃ m, m = i - 16 := ⟨_, rfl⟩
        obtain ⟨i7, e7⟩ : ∃ m, m = i - 7 := ⟨_, rfl⟩
        obtain ⟨i2, e2⟩ : ∃ m, m = i - 2 := ⟨_, rfl⟩
        have F : ∀ j, j < i → wr.cell? ⟨G + 1, j, none⟩ = some (wd (M.getD j 0)) := by
          intro j hj
          exact Hcw.out.cell j _ (by rw [← hM]; exact wds_getL _ _ _ (by rw [hM, hlen]; exact hj))
        have f15 := F i15 (by omega)
        obtain ⟨x, hx⟩ : ∃ v, v = M.getD i15 0 := ⟨_, rfl⟩
        rw [← hx] at f15
        unfold wd at f15
        obtain ⟨X, hX⟩ : ∃ n, n = x.toNat := ⟨_, rfl⟩
        rw [← hX] at f15
        have g15 : IntKind.i64.wrap ((i : Int) - 15) = (i15 : Int) := by rw [IntKind.wrap_i64]; omega
        have b15 : (i15 : Int) < 64 := by omega
        have f16 := F i16 (by omega)
        obtain ⟨a, ha⟩ : ∃ v, v = M.getD i16 0 := ⟨_, rfl⟩
        rw [← ha] at f16
        unfold wd at f16
        obtain ⟨A, hA⟩ : ∃ n, n = a.toNat := ⟨_, rfl⟩
        rw [← hA] at f16
        have g16 : IntKind.i64.wrap ((i : Int) - 16) = (i16 : Int) := by rw [IntKind.wrap_i64]; omega
        have b16 : (i16 : Int) < 64 := by omega
        have f7 := F i7 (by omega)
        obtain ⟨b, hb⟩ : ∃ v, v = M.getD i7 0 := ⟨_, rfl⟩
        rw [← hb] at f7
        unfold wd at f7
        obtain ⟨B, hB⟩ : ∃ n, n = b.toNat := ⟨_, rfl⟩
        rw [← hB] at f7
        have g7 : IntKind.i64.wrap ((i : Int) - 7) = (i7 : Int) := by rw [IntKind.wrap_i64]; omega
        have b7 : (i7 : Int) < 64 := by omega
        have f2 := F i2 (by omega)
        obtain ⟨y, hy⟩ : ∃ v, v = M.getD i2 0 := ⟨_, rfl⟩
        rw [← hy] at f2
        unfold wd at f2
        obtain ⟨Y, hY⟩ : ∃ n, n = y.toNat := ⟨_, rfl⟩
        rw [← hY] at f2
        have g2 : IntKind.i64.wrap ((i : Int) - 2) = (i2 : Int) := by rw [IntKind.wrap_i64]; omega
        have b2 : (i2 : Int) < 64 := by omega
        obtain ⟨R7, h7⟩ : ∃ n, n = (rr x 7).toNat := ⟨_, rfl⟩
        have C7 := right_int x 7 7 X R7 (by omega) hX h7 (by omega) (by omega)
        obtain ⟨R18, h18⟩ : ∃ n, n = (rr x 18).toNat := ⟨_, rfl⟩
        have C18 := right_int x 18 18 X R18 (by omega) hX h18 (by omega) (by omega)
        obtain ⟨R17, h17⟩ : ∃ n, n = (rr y 17).toNat := ⟨_, rfl⟩
        have C17 := right_int y 17 17 Y R17 (by omega) hY h17 (by omega) (by omega)
        obtain ⟨R19, h19⟩ : ∃ n, n = (rr y 19).toNat := ⟨_, rfl⟩
        have C19 := right_int y 19 19 Y R19 (by omega) hY h19 (by omega) (by omega)
        have bi : (i : Int) < 64 := by omega
        have E1 := Lib.hid (And.intro e15 (And.intro e16 (And.intro e7 e2)))
        have E2 := Lib.hid (And.intro hx (And.intro hy (And.intro ha hb)))
        have E3 := Lib.hid (And.intro hX (And.intro hY (And.intro hA hB)))
        have E4 := Lib.hid (And.intro h7 (And.intro h18 (And.intro h17 h19)))
        have HM := Lib.hid hM
        have HLEN := Lib.hid hlen
        clear e15 e16 e7 e2 hx hy ha hb hX hY hA hB h7 h18 h17 h19 hM hlen F
        go_wp2_with fail
        go_quiet (fail)
        obtain ⟨wq, hwq⟩ : ∃ v, v = wr.drewN nq := ⟨_, rfl⟩
        have HcQ : Hid (CB wq 128 (G + 1) (wds (schedR l i ++ List.replicate (64 - i) 0))) := by rw [hwq]; exact Hcw
        have HbQ : Hid (Below (G + 1) w3 wq) := by rw [hwq]; exact Lib.hid (below_drewN Hb.out nq)
        have q16 : wq.cell? ⟨G + 1, i16, none⟩ = some (.int .u32 (A : Int)) := by rw [hwq]; exact f16
        have q7 : wq.cell? ⟨G + 1, i7, none⟩ = some (.int .u32 (B : Int)) := by rw [hwq]; exact f7
        rw [← hwq]
        clear f16 f7 f15 f2 Hcw Hb hwq
        go_wp2_with fail
        go_still_tail 29, (by kernel_rfl)
        still_call (C7 _)
        repeat still_step
        still_call (C18 _)
        repeat still_step
        still_call (C17 _)
        repeat still_step
        still_call (C19 _)
        repeat still_step
        refine wpStill_nil ?_
        change wpList _ _ _ _ _ wq.drew
        have hcl := HcQ.out.cell i (wd 0) (wds_zero _ _ _ (by rw [schedR_length]; omega) (by rw [schedR_length]; omega))
        have hfz := HcQ.out.free i
        unfold wd at hcl
        go_wp2
        go_roundw
        case rel =>
          refine ⟨i + 1, by omega, by go_num, ?_, ?_⟩
          · obtain ⟨hX, hY, hA, hB⟩ := E3.out
            obtain ⟨h7, h18, h17, h19⟩ := E4.out
            rw [schedR_next l i hi16]
            refine CB.drew (put_behind (schedR_length l i) hlt HcQ.out _ _ ?_)
            rw [hX, hY, hA, hB, h7, h18, h17, h19, show ((x.toNat : Int) / 8 % 4294967296) = (x.toNat : Int) / 8 by have := x.isLt; omega, show ((y.toNat : Int) / 1024 % 4294967296) = (y.toNat : Int) / 1024 by have := y.isLt; omega, next_val]
            obtain ⟨hx, hy, ha, hb⟩ := E2.out
            obtain ⟨e15, e16, e7, e2⟩ := E1.out
            rw [← HM.out]
            have hl0 : M.length = i := by rw [HM.out]; exact HLEN.out
            unfold nextW
            rw [hl0, hx, hy, ha, hb, e15, e16, e7, e2]
          · exact (HbQ.out.setCell (Nat.le_refl _) _).drew
        case measure =>
          simp only [intOf]
          omega
    · have hi64 : i = 64 := by omega
      obtain ⟨W, hW⟩ : ∃ W, W = growW (words l 16) 48 := ⟨_, rfl⟩
      have hcw : CB wr 128 (G + 1) (wds W) := by
        have h1 := Hcw.out
        rw [hi64] at h1
        rw [hW]
        simpa [schedR] using h1
      have hwl : W.length = 64 := by rw [hW, growW_length, words_length]
      have hbb : Below (N + 1 + 1 + 1) w1 wr := (HB3.out.mono (by omega)).trans (Hb.out.mono (by omega))
      have hzz : G + 1 + 1 ≤ wr.heap.size := by have := Hb.out.size; have := HZ3.out; omega
      have hkk : CB wr 128 G (wds ks) := HK3.out.below Hb.out (by omega)
      have HWL := Lib.hid hwl
      have HWW := Lib.hid hW
      have HCW := Lib.hid hcw
      have HBB := Lib.hid hbb
      have HZZ := Lib.hid hzz
      have HKK := Lib.hid hkk
      have hq64 : (decide ((i : Int) < 64)) = false := by simp; omega
      clear hwl hW hcw hbb hzz hkk Hcw Hb HK3 HB3 HW3 HZ3 hlt hi64
      go_wp2_with (with_reducible refine stopAt 92 ?_)
      refine Stop.go ?_
      refine wpList_load_agg rfl 99 (.tmp 2) rfl ⟨N, 0, none⟩ rfl (wds s.l) _ (HS1.out.below HBB.out (by omega)).at.load Try.underlying99 rfl (by rw [wds_length]; exact infoW8) ?_
      go_wp2_with (with_reducible refine stopStore 99 ?_)
      refine Stop.go ?_
      obtain ⟨wb, hwb, hbk, hbb, hbz⟩ := alloc_cb wr 99 (wds (List.replicate 8 0))
      change wpList _ _ _ _ _ (wr.alloc (.cells (wds (List.replicate 8 0)).toArray 99))
      rw [← hwb]
      obtain ⟨H, hH⟩ : ∃ H, H = wr.heap.size := ⟨_, rfl⟩
      rw [← hH] at hbk hbb hbz ⊢
      have hzz := HZZ.out
      rw [← hH] at hzz
      clear hwb
      refine wpList_store_var rfl 99 (.tmp 10) (.tmp 92) rfl H _ rfl _ (wds s.l) rfl hbk (by simp [wds_length, St.l]) (wds_one _) (by rw [wds_length]; exact infoW8) ?_
      intro w4 hb4 ho4
      have h4b : Below H wr w4 := Below.only hbb ho4 (Nat.le_refl _)
      have HS4 : Hid (CB w4 99 H (wds s.l)) := Lib.hid hb4
      have HW4 : Hid (CB w4 128 (G + 1) (wds W)) := Lib.hid (HCW.out.below h4b (by omega))
      have HK4 : Hid (CB w4 128 G (wds ks)) := Lib.hid (HKK.out.below h4b (by omega))
      have HB4 : Hid (Below (N + 1 + 1 + 1) w1 w4) := Lib.hid (HBB.out.trans (h4b.mono (by omega)))
      have hHG : G + 1 + 1 ≤ H := by omega
      clear hb4 ho4 h4b hbk hbb hbz hH hzz HZZ HCW HKK HBB
      go_wp2
      try rw [hq64]
      clear hq64
      go_loopw [11] (fun v11 wr => ∃ n : Nat, n ≤ 64 ∧ v11 = .int .i64 (n : Int) ∧ CB wr 99 H (wds (steps ks W s n).l) ∧ Below H w4 wr)
        (fun v _ => 64 - (intOf v).toNat)
      case atStart => exact ⟨0, by omega, rfl, HS4.out, Below.refl _ _⟩
      case round =>
        obtain ⟨n, hn, rfl, h1, h2⟩ := hrel
        obtain ⟨T, hT⟩ : ∃ T, T = steps ks W s n := ⟨_, rfl⟩
        rw [← hT] at h1
        have H1 := Lib.hid h1
        have H2 := Lib.hid h2
        have HT := Lib.hid hT
        clear h1 h2 hT HS4
        by_cases hlt : n < 64
        · obtain ⟨a, b, c, d, e, f, g, h⟩ := T
          obtain ⟨Xa, ha⟩ : ∃ n, n = a.toNat := ⟨_, rfl⟩
          obtain ⟨Xb, hb⟩ : ∃ n, n = b.toNat := ⟨_, rfl⟩
          obtain ⟨Xc, hc⟩ : ∃ n, n = c.toNat := ⟨_, rfl⟩
          obtain ⟨Xd, hd⟩ : ∃ n, n = d.toNat := ⟨_, rfl⟩
          obtain ⟨Xe, he⟩ : ∃ n, n = e.toNat := ⟨_, rfl⟩
          obtain ⟨Xf, hf⟩ : ∃ n, n = f.toNat := ⟨_, rfl⟩
          obtain ⟨Xg, hg⟩ : ∃ n, n = g.toNat := ⟨_, rfl⟩
          obtain ⟨Xh, hh⟩ : ∃ n, n = h.toNat := ⟨_, rfl⟩
          have fa : wr.cell? ⟨H, 0, none⟩ = some (.int .u32 (Xa : Int)) := by rw [ha]; exact H1.out.cell 0 _ rfl
          have fb : wr.cell? ⟨H, 1, none⟩ = some (.int .u32 (Xb : Int)) := by rw [hb]; exact H1.out.cell 1 _ rfl
          have fc : wr.cell? ⟨H, 2, none⟩ = some (.int .u32 (Xc : Int)) := by rw [hc]; exact H1.out.cell 2 _ rfl
          have fd : wr.cell? ⟨H, 3, none⟩ = some (.int .u32 (Xd : Int)) := by rw [hd]; exact H1.out.cell 3 _ rfl
          have fe : wr.cell? ⟨H, 4, none⟩ = some (.int .u32 (Xe : Int)) := by rw [he]; exact H1.out.cell 4 _ rfl
          have ff : wr.cell? ⟨H, 5, none⟩ = some (.int .u32 (Xf : Int)) := by rw [hf]; exact H1.out.cell 5 _ rfl
          have fg : wr.cell? ⟨H, 6, none⟩ = some (.int .u32 (Xg : Int)) := by rw [hg]; exact H1.out.cell 6 _ rfl
          have fh : wr.cell? ⟨H, 7, none⟩ = some (.int .u32 (Xh : Int)) := by rw [hh]; exact H1.out.cell 7 _ rfl
          obtain ⟨kn, hkn⟩ : ∃ x, x = ks.getD n 0 := ⟨_, rfl⟩
          obtain ⟨wn, hwn⟩ : ∃ x, x = W.getD n 0 := ⟨_, rfl⟩
          have fk : wr.cell? ⟨G, n, none⟩ = some (wd kn) := by rw [hkn]; exact (HK4.out.below H2.out (by omega)).cell n _ (wds_get _ _ (by omega))
          have fw : wr.cell? ⟨G + 1, n, none⟩ = some (wd wn) := by rw [hwn]; exact (HW4.out.below H2.out (by omega)).cell n _ (wds_get _ _ (by have := HWL.out; omega))
          obtain ⟨Xk, hk'⟩ : ∃ n, n = kn.toNat := ⟨_, rfl⟩
          obtain ⟨Xw, hw'⟩ : ∃ n, n = wn.toNat := ⟨_, rfl⟩
          unfold wd at fk fw
          rw [← hk'] at fk
          rw [← hw'] at fw
          obtain ⟨R6, r6⟩ : ∃ n, n = (rr e 6).toNat := ⟨_, rfl⟩
          have C6 := right_int e 6 6 Xe R6 (by omega) he r6 (by omega) (by omega)
          obtain ⟨R11, r11⟩ : ∃ n, n = (rr e 11).toNat := ⟨_, rfl⟩
          have C11 := right_int e 11 11 Xe R11 (by omega) he r11 (by omega) (by omega)
          obtain ⟨R25, r25⟩ : ∃ n, n = (rr e 25).toNat := ⟨_, rfl⟩
          have C25 := right_int e 25 25 Xe R25 (by omega) he r25 (by omega) (by omega)
          obtain ⟨R2, r2⟩ : ∃ n, n = (rr a 2).toNat := ⟨_, rfl⟩
          have C2 := right_int a 2 2 Xa R2 (by omega) ha r2 (by omega) (by omega)
          obtain ⟨R13, r13⟩ : ∃ n, n = (rr a 13).toNat := ⟨_, rfl⟩
          have C13 := right_int a 13 13 Xa R13 (by omega) ha r13 (by omega) (by omega)
          obtain ⟨R22, r22⟩ : ∃ n, n = (rr a 22).toNat := ⟨_, rfl⟩
          have C22 := right_int a 22 22 Xa R22 (by omega) ha r22 (by omega) (by omega)
          have bi : (n : Int) < 64 := by omega
          have E1 := Lib.hid (And.intro hkn hwn)
          have E2 := Lib.hid (And.intro ha (And.intro hb (And.intro hc (And.intro hd (And.intro he (And.intro hf (And.intro hg hh)))))))
          have E3 := Lib.hid (And.intro hk' hw')
          have E4 := Lib.hid (And.intro r6 (And.intro r11 (And.intro r25 (And.intro r2 (And.intro r13 r22)))))
          clear hkn hwn ha hb hc hd he hf hg hh hk' hw' r6 r11 r25 r2 r13 r22
          have HF : ∀ (m : Nat), Hid (CB (wr.drewN m) 99 H (wds (St.mk a b c d e f g h).l)) := fun _ => H1
          go_wp2_with fail
          go_quiet (fail)
          obtain ⟨wq, hwq⟩ : ∃ v, v = wr.drewN nq := ⟨_, rfl⟩
          rw [← hwq]
          have qf : wq.cell? ⟨H, 5, none⟩ = some (.int .u32 (Xf : Int)) := by rw [hwq]; exact ff
          have qh : wq.cell? ⟨H, 7, none⟩ = some (.int .u32 (Xh : Int)) := by rw [hwq]; exact fh
          have qg : wq.cell? ⟨H, 6, none⟩ = some (.int .u32 (Xg : Int)) := by rw [hwq]; exact fg
          have qb : wq.cell? ⟨H, 1, none⟩ = some (.int .u32 (Xb : Int)) := by rw [hwq]; exact fb
          have qc : wq.cell? ⟨H, 2, none⟩ = some (.int .u32 (Xc : Int)) := by rw [hwq]; exact fc
          have qd : wq.cell? ⟨H, 3, none⟩ = some (.int .u32 (Xd : Int)) := by rw [hwq]; exact fd
          have qk : wq.cell? ⟨G, n, none⟩ = some (.int .u32 (Xk : Int)) := by rw [hwq]; exact fk
          have qw : wq.cell? ⟨G + 1, n, none⟩ = some (.int .u32 (Xw : Int)) := by rw [hwq]; exact fw
          have qa : wq.cell? ⟨H, 0, none⟩ = some (.int .u32 (Xa : Int)) := by rw [hwq]; exact fa
          have qe : wq.cell? ⟨H, 4, none⟩ = some (.int .u32 (Xe : Int)) := by rw [hwq]; exact fe
          have H1Q : Hid (CB wq 99 H (wds (St.mk a b c d e f g h).l)) := by rw [hwq]; exact H1
          have H2Q : Hid (Below H w4 wq) := by rw [hwq]; exact Lib.hid (below_drewN H2.out nq)
          clear fa fb fc fd fe ff fg fh fk fw HF H1 H2 hwq
          go_wp2_with fail
          refine wp_region_quiet_lit (by kernel_rfl) (by kernel_rfl) ?_
          repeat (quiet_step (fail))
          quiet_step (exact Calls.quiet_of_same (C6 _))
          repeat (quiet_step (fail))
          quiet_step (exact Calls.quiet_of_same (C11 _))
          repeat (quiet_step (fail))
          quiet_step (exact Calls.quiet_of_same (C25 _))
          repeat (quiet_step (fail))
          refine wpQuiet_nil ?_
          intro _ hw1
          obtain ⟨nq2, hw1⟩ := hw1
          subst hw1
          obtain ⟨X21, h21⟩ : ∃ n, n = (stepX kn wn ⟨a, b, c, d, e, f, g, h⟩).toNat := ⟨_, rfl⟩
          obtain ⟨X22, h22⟩ : ∃ n, n = (stepY ⟨a, b, c, d, e, f, g, h⟩).toNat := ⟨_, rfl⟩
          have hv := stepX_valR a b c d e f g h kn wn
          rw [← h21, ← E3.out.1, ← E3.out.2, ← E4.out.1, ← E4.out.2.1, ← E4.out.2.2.1, ← E2.out.2.2.2.2.1, ← E2.out.2.2.2.2.2.1, ← E2.out.2.2.2.2.2.2.1, ← E2.out.2.2.2.2.2.2.2] at hv
          rw [hv]
          have H21 := Lib.hid h21
          have H22 := Lib.hid h22
          clear hv h21 h22
          obtain ⟨wx, hwx⟩ : ∃ v, v = wq.drewN nq2 := ⟨_, rfl⟩
          rw [← hwx]
          have pa : wx.cell? ⟨H, 0, none⟩ = some (.int .u32 (Xa : Int)) := by rw [hwx]; exact qa
          have pb : wx.cell? ⟨H, 1, none⟩ = some (.int .u32 (Xb : Int)) := by rw [hwx]; exact qb
          have pc : wx.cell? ⟨H, 2, none⟩ = some (.int .u32 (Xc : Int)) := by rw [hwx]; exact qc
          have pd : wx.cell? ⟨H, 3, none⟩ = some (.int .u32 (Xd : Int)) := by rw [hwx]; exact qd
          have pe : wx.cell? ⟨H, 4, none⟩ = some (.int .u32 (Xe : Int)) := by rw [hwx]; exact qe
          have pf : wx.cell? ⟨H, 5, none⟩ = some (.int .u32 (Xf : Int)) := by rw [hwx]; exact qf
          have pg : wx.cell? ⟨H, 6, none⟩ = some (.int .u32 (Xg : Int)) := by rw [hwx]; exact qg
          have ph : wx.cell? ⟨H, 7, none⟩ = some (.int .u32 (Xh : Int)) := by rw [hwx]; exact qh
          have H1X : Hid (CB wx 99 H (wds (St.mk a b c d e f g h).l)) := by rw [hwx]; exact H1Q
          have H2X : Hid (Below H w4 wx) := by rw [hwx]; exact Lib.hid (below_drewN H2Q.out nq2)
          clear qa qb qc qd qe qf qg qh qk qw H1Q H2Q hwx C6 C11 C25
          go_wp2_with fail
          refine wp_region_quiet_lit (by kernel_rfl) (by kernel_rfl) ?_
          repeat (quiet_step (fail))
          quiet_step (exact Calls.quiet_of_same (C2 _))
          repeat (quiet_step (fail))
          quiet_step (exact Calls.quiet_of_same (C13 _))
          repeat (quiet_step (fail))
          quiet_step (exact Calls.quiet_of_same (C22 _))
          repeat (quiet_step (fail))
          refine wpQuiet_nil ?_
          intro _ hw1
          obtain ⟨nq3, hw1⟩ := hw1
          subst hw1
          obtain ⟨wz, hwz⟩ : ∃ v, v = wx.drewN nq3 := ⟨_, rfl⟩
          rw [← hwz]
          have sa : wz.cell? ⟨H, 0, none⟩ = some (.int .u32 (Xa : Int)) := by rw [hwz]; exact pa
          have sb : wz.cell? ⟨H, 1, none⟩ = some (.int .u32 (Xb : Int)) := by rw [hwz]; exact pb
          have sc : wz.cell? ⟨H, 2, none⟩ = some (.int .u32 (Xc : Int)) := by rw [hwz]; exact pc
          have sd : wz.cell? ⟨H, 3, none⟩ = some (.int .u32 (Xd : Int)) := by rw [hwz]; exact pd
          have se : wz.cell? ⟨H, 4, none⟩ = some (.int .u32 (Xe : Int)) := by rw [hwz]; exact pe
          have sf : wz.cell? ⟨H, 5, none⟩ = some (.int .u32 (Xf : Int)) := by rw [hwz]; exact pf
          have sg : wz.cell? ⟨H, 6, none⟩ = some (.int .u32 (Xg : Int)) := by rw [hwz]; exact pg
          have sh : wz.cell? ⟨H, 7, none⟩ = some (.int .u32 (Xh : Int)) := by rw [hwz]; exact ph
          have H1Z : Hid (CB wz 99 H (wds (St.mk a b c d e f g h).l)) := by rw [hwz]; exact H1X
          have H2Z : Hid (Below H w4 wz) := by rw [hwz]; exact Lib.hid (below_drewN H2X.out nq3)
          clear pa pb pc pd pe pf pg ph H1X H2X hwz C2 C13 C22
          have hv := stepY_val a b c d e f g h
          rw [← H22.out, ← E4.out.2.2.2.1, ← E4.out.2.2.2.2.1, ← E4.out.2.2.2.2.2, ← E2.out.1, ← E2.out.2.1, ← E2.out.2.2.1] at hv
          rw [hv]
          clear hv
          go_wp2_with (with_reducible refine stopStore 99 ?_)
          refine Stop.go ?_
          have hval : (wds (step kn wn ⟨a, b, c, d, e, f, g, h⟩).l).toArray = #[.int .u32 (IntKind.u32.wrap ((X21 : Int) + (X22 : Int))), .int .u32 (Xa : Int), .int .u32 (Xb : Int), .int .u32 (Xc : Int), .int .u32 (IntKind.u32.wrap ((Xd : Int) + (X21 : Int))), .int .u32 (Xe : Int), .int .u32 (Xf : Int), .int .u32 (Xg : Int)] := by
            rw [H21.out, H22.out, E2.out.1, E2.out.2.1, E2.out.2.2.1, E2.out.2.2.2.1, E2.out.2.2.2.2.1, E2.out.2.2.2.2.2.1, E2.out.2.2.2.2.2.2.1, add_wrap, add_wrap]
            rfl
          have hval2 : (wds (step kn wn ⟨a, b, c, d, e, f, g, h⟩).l).toArray = #[.int .u32 (((X21 : Int) + (X22 : Int)) % 4294967296), .int .u32 (Xa : Int), .int .u32 (Xb : Int), .int .u32 (Xc : Int), .int .u32 (((Xd : Int) + (X21 : Int)) % 4294967296), .int .u32 (Xe : Int), .int .u32 (Xf : Int), .int .u32 (Xg : Int)] := by
            rw [H21.out, H22.out, E2.out.1, E2.out.2.1, E2.out.2.2.1, E2.out.2.2.2.1, E2.out.2.2.2.2.1, E2.out.2.2.2.2.2.1, E2.out.2.2.2.2.2.2.1, add_wd, add_wd]
            rfl
          refine wpList_store_var rfl 99 (.tmp 10) (.tmp 174) rfl H _ rfl _ (wds (step kn wn ⟨a, b, c, d, e, f, g, h⟩).l) (by first | (rw [hval]; rfl) | (rw [hval2]; rfl)) H1Z.out (by simp [wds_length, St.l]) (wds_one _) (by rw [wds_length]; exact infoW8) ?_
          intro w5 hb5 ho5
          have H15 : Hid (CB w5 99 H (wds (steps ks W s (n + 1)).l)) := by
            have hst : (step kn wn ⟨a, b, c, d, e, f, g, h⟩) = steps ks W s (n + 1) := by rw [HT.out, E1.out.1, E1.out.2]; rfl
            rw [← hst]
            exact Lib.hid hb5
          have H25 : Hid (Below H w4 w5) := Lib.hid (Below.only H2Z.out ho5 (Nat.le_refl _))
          clear hb5 ho5 hval hval2 H1Z H2Z sa sb sc sd se sf sg sh
          go_wp2
          go_roundw
          case rel => exact ⟨n + 1, by omega, by go_num, H15.out, H25.out⟩
          case measure =>
            simp only [intOf]
            omega
        · have hn64 : n = 64 := by omega
          have HTS : Hid (T = steps ks W s 64) := by rw [← hn64]; exact HT
          have hq64 : (decide ((n : Int) < 64)) = false := by simp; omega
          have HSB : Hid (CB wr 99 N (wds s.l)) := Lib.hid ((HS1.out.below HB4.out (by omega)).below H2.out (by omega))
          have HRB : Hid (CB wr 99 (N + 1 + 1) (wds (List.replicate 8 0))) := by
            refine Lib.hid (CB.below (CB.below HR1.out HB4.out (by omega)) H2.out (by omega))
          have HBB2 : Hid (Below N w wr) := Lib.hid ((HB1.out.trans (HB4.out.mono (by omega))).trans (H2.out.mono (by omega)))
          clear H2 HW4 HK4 HB4 hlt hn64
          go_wp2
          try rw [hq64]
          clear hq64
          go_loopw [16] (fun v16 wr => ∃ m : Nat, m ≤ 8 ∧ v16 = .int .i64 (m : Int) ∧ CB wr 99 H (wds (mixL T.l s.l m)) ∧ CB wr 99 N (wds s.l) ∧ CB wr 99 (N + 1 + 1) (wds (List.replicate 8 0)) ∧ Below N w wr)
            (fun v _ => 8 - (intOf v).toNat)
          case atStart => exact ⟨0, by omega, rfl, H1.out, HSB.out, HRB.out, HBB2.out⟩
          case round =>
            obtain ⟨m, hm8, rfl, h1, h2, h3, h4⟩ := hrel
            have M1 := Lib.hid h1
            have M2 := Lib.hid h2
            have M3 := Lib.hid h3
            have M4 := Lib.hid h4
            clear h1 h2 h3 h4 H1 HSB HRB HBB2
            by_cases hlt : m < 8
            · obtain ⟨x, hx⟩ : ∃ x, x = T.l.getD m 0 := ⟨_, rfl⟩
              obtain ⟨y, hy⟩ : ∃ x, x = s.l.getD m 0 := ⟨_, rfl⟩
              have f1 : wr.cell? ⟨H, m, none⟩ = some (wd x) := by rw [hx]; exact M1.out.cell m _ (mixL_get _ _ _ rfl hlt)
              have f2 : wr.cell? ⟨N, m, none⟩ = some (wd y) := by rw [hy]; exact M2.out.cell m _ (wds_get _ _ hlt)
              have f3 := M1.out.free m
              obtain ⟨X, hX⟩ : ∃ n, n = x.toNat := ⟨_, rfl⟩
              obtain ⟨Y, hY⟩ : ∃ n, n = y.toNat := ⟨_, rfl⟩
              unfold wd at f1 f2
              rw [← hX] at f1
              rw [← hY] at f2
              have bm : (m : Int) < 8 := by omega
              have EE := Lib.hid (And.intro hx (And.intro hy (And.intro hX hY)))
              clear hx hy hX hY
              go_wp2_with fail
              go_still_tail 9, (by kernel_rfl)
              change wpList _ _ _ _ _ wr.drew
              go_wp2
              go_roundw
              case rel =>
                obtain ⟨hx, hy, hX, hY⟩ := EE.out
                refine ⟨m + 1, by omega, by go_num, CB.drew (put_mix (X := T.l) (Y := s.l) rfl hlt M1.out _ ?_), CB.drew (M2.out.other (by show H ≠ N; omega) _), CB.drew (M3.out.other (by show H ≠ N + 1 + 1; omega) _), (M4.out.setCell (by show N ≤ H; omega) _).drew⟩
                rw [hX, hY, add_wd, hx, hy]
              case measure =>
                simp only [intOf]
                omega
            · have hm : m = 8 := by omega
              have h1 := M1.out
              rw [hm, mixL_all, St.add_comm] at h1
              have HM := Lib.hid hm
              have HH := Lib.hid h1
              clear hm h1 M1
              go_wp2_with (with_reducible refine stopAt 188 ?_)
              refine Stop.go ?_
              refine wpList_load_agg rfl 99 (.tmp 10) rfl ⟨H, 0, none⟩ rfl (wds (s.add T).l) _ HH.out.at.load Try.underlying99 rfl (by rw [wds_length]; exact infoW8) ?_
              go_wp2_with (with_reducible refine stopStore 99 ?_)
              refine Stop.go ?_
              refine wpList_store_var rfl 99 (.tmp 4) (.tmp 188) rfl (N + 1 + 1) _ rfl _ (wds (s.add T).l) rfl M3.out (by simp [wds_length, St.l]) (wds_one _) (by rw [wds_length]; exact infoW8) ?_
              intro w9 hb9 ho9
              have B9 : Below N w w9 := Below.only M4.out ho9 (by omega)
              clear ho9
              rw [HTS.out, HWW.out] at hb9
              have HB9 := Lib.hid hb9
              rw [HN.out] at B9
              have HBL := Lib.hid B9
              clear hb9 B9
              go_wp2
              exact bodyPost_ret (results_cell1 rfl _ _ (N + 1 + 1) _ _ _ _ rfl HB9.out Try.underlying99 rfl (by simp [St.l, wds_length, infoW8])) rfl ⟨rfl, HBL.out⟩
end Go.Proofs.Ytkbahhnjoidhcaa
