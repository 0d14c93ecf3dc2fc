/- A block pressed into a state: the program's own. -/
import Derived.Test.YtkbahhnjoidhcaaG2
import Derived.Test.YtkbahhnjoidhcaaG1
import Derived.StillTailTactics
import Derived.WalkSmall
namespace Go.Proofs.Ytkbahhnjoidhcaa
set_option linter.unusedVariables false
set_option linter.unusedSimpArgs false
open Go.RowKit Go.Lib

set_option maxRecDepth 100000 in
set_option maxHeartbeats 1600000 in
theorem press_any (w : World) (ks : List W32) (hk : ks.length = 64) (s : St) (v : Value) (l : List UInt8) (hl : l.length = 64) (hr : Rd w 1 v 64 (bvs l)) :
    Calls Try.prog 109 #[.agg (wds ks).toArray, .agg (wds s.l).toArray, v] w fun e w' => e = .returned (.agg (wds (pressS ks s l).l).toArray) ∧ Below w.heap.size w w' := by
  rcases hr.2 with ⟨_, h0⟩ | ⟨ad, c, rfl, _, _, hsrc⟩
  · omega
  have Hr := Lib.hid hr; clear hr
  go_enter Try.func109, Try.ntmps109
  go_wp2
  obtain ⟨wa, ha, hak, hab, has⟩ := alloc_cb w 128 (wds ks)
  obtain ⟨wb, hb, hbs, hbb, hbz⟩ := alloc_cb wa 99 (wds s.l)
  obtain ⟨wc, hc, hcr, hcb, hcz⟩ := alloc_cb wb 99 (wds (List.replicate 8 0))
  obtain ⟨w1, hd, hdw, hdb, hdz⟩ := alloc_cb wc 128 (wds (List.replicate 64 0))
  change Code.wp _ _ _ _ ((((w.alloc (.cells (wds ks).toArray 128)).alloc (.cells (wds s.l).toArray 99)).alloc (.cells (wds (List.replicate 8 0)).toArray 99)).alloc (.cells (wds (List.replicate 64 0)).toArray 128))
  rw [← ha, ← hb, ← hc, ← hd]
  rw [has] at hbz hbs
  rw [hbz] at hcz hcr
  rw [hcz] at hdz hdw
  have hK1 : CB w1 128 w.heap.size (wds ks) := ((hak.fresh hbb).fresh hcb).fresh hdb
  have hS1 : CB w1 99 (w.heap.size + 1) (wds s.l) := (hbs.fresh hcb).fresh hdb
  have hR1 : CB w1 99 (w.heap.size + 1 + 1) (wds (List.replicate 8 0)) := hcr.fresh hdb
  have hB1 : Below w.heap.size w w1 := ((hab.trans (hbb.mono hab.size)).trans (hcb.mono (by omega))).trans (hdb.mono (by omega))
  have Hr1 : Hid (Rd w1 1 (.slice (some ad) 64 c) 64 (bvs l)) := Lib.hid (Hr.out.fresh hB1)
  have HK1 := Lib.hid hK1
  have HS1 := Lib.hid hS1
  have HR1 := Lib.hid hR1
  have HW1 := Lib.hid hdw
  have HB1 := Lib.hid hB1
  have HZ1 := Lib.hid hdz
  clear ha hb hc hd hak hab has hbs hbb hbz hcr hcb hcz hdb hK1 hS1 hR1 hB1 hdw hdz
  obtain ⟨N, hN⟩ : ∃ N, N = w.heap.size := ⟨_, rfl⟩
  rw [← hN] at HK1 HS1 HR1 HW1 HZ1 HB1 ⊢
  have HN := Lib.hid hN; clear hN
  go_loopw [25] (fun v25 wr => ∃ k : Nat, k ≤ 16 ∧ v25 = .int .i64 (k : Int) ∧ CB wr 128 (N + 1 + 1 + 1) (wds (words l k ++ List.replicate (64 - k) 0)) ∧ Below (N + 1 + 1 + 1) w1 wr)
    (fun v _ => 16 - (intOf v).toNat)
  case atStart => exact ⟨0, by omega, rfl, HW1.out, Below.refl _ _⟩
  case round =>
    obtain ⟨k, hk16, rfl, hcw, hb⟩ := hrel
    have Hcw := Lib.hid hcw; clear hcw
    have Hb := Lib.hid hb; clear hb
    by_cases hlt : k < 16
    · rcases (Hr1.out).2 with ⟨_, h0⟩ | ⟨ad', c', he, _, _, hcell⟩
      · omega
      simp only [Value.slice.injEq, true_and, Option.some.injEq] at he
      obtain ⟨rfl, rfl⟩ := he
      have F : ∀ j, j < 64 → wr.cell? (ad.add j) = some (.int .u8 (((l.getD j 0).toNat : Nat) : Int)) := by
        intro j hj
        have h1 := hcell j (bv (l.getD j 0)) (by simp [bvs, List.getD_eq_getElem?_getD, hl, hj])
        have h3 := hsrc j (bv (l.getD j 0)) (by simp [bvs, List.getD_eq_getElem?_getD, hl, hj])
        rw [Hb.out.cell (by have := block_lt_of_cell h3; have := HN.out; omega)]
        exact h1
      obtain ⟨m0, e0⟩ : ∃ m, m = 4 * k := ⟨_, rfl⟩
      obtain ⟨m1, e1⟩ : ∃ m, m = m0 + 1 := ⟨_, rfl⟩
      obtain ⟨m2, e2⟩ : ∃ m, m = m0 + 2 := ⟨_, rfl⟩
      obtain ⟨m3, e3⟩ : ∃ m, m = m0 + 3 := ⟨_, rfl⟩
      obtain ⟨x0, y0⟩ : ∃ x, x = l.getD m0 0 := ⟨_, rfl⟩
      obtain ⟨x1, y1⟩ : ∃ x, x = l.getD m1 0 := ⟨_, rfl⟩
      obtain ⟨x2, y2⟩ : ∃ x, x = l.getD m2 0 := ⟨_, rfl⟩
      obtain ⟨x3, y3⟩ : ∃ x, x = l.getD m3 0 := ⟨_, rfl⟩
      obtain ⟨n0, z0⟩ : ∃ n, n = x0.toNat := ⟨_, rfl⟩
      obtain ⟨n1, z1⟩ : ∃ n, n = x1.toNat := ⟨_, rfl⟩
      obtain ⟨n2, z2⟩ : ∃ n, n = x2.toNat := ⟨_, rfl⟩
      obtain ⟨n3, z3⟩ : ∃ n, n = x3.toNat := ⟨_, rfl⟩
      have f0 := F m0 (by omega)
      have f1 := F m1 (by omega)
      have f2 := F m2 (by omega)
      have f3 := F m3 (by omega)
      rw [← y0, ← z0] at f0
      rw [← y1, ← z1] at f1
      rw [← y2, ← z2] at f2
      rw [← y3, ← z3] at f3
      have g0 : IntKind.i64.wrap (4 * (k : Int)) = (m0 : Int) := by rw [IntKind.wrap_i64]; omega
      have g1 : IntKind.i64.wrap ((m0 : Int) + 1) = (m1 : Int) := by rw [IntKind.wrap_i64]; omega
      have g2 : IntKind.i64.wrap ((m0 : Int) + 2) = (m2 : Int) := by rw [IntKind.wrap_i64]; omega
      have g3 : IntKind.i64.wrap ((m0 : Int) + 3) = (m3 : Int) := by rw [IntKind.wrap_i64]; omega
      have b0 : (m0 : Int) < 64 := by omega
      have b1 : (m1 : Int) < 64 := by omega
      have b2 : (m2 : Int) < 64 := by omega
      have b3 : (m3 : Int) < 64 := by omega
      have bk : (k : Int) < 64 := by omega
      have c0 := x0.toNat_lt
      have c1 := x1.toNat_lt
      have c2 := x2.toNat_lt
      have c3 := x3.toNat_lt
      rw [← z0] at c0
      rw [← z1] at c1
      rw [← z2] at c2
      rw [← z3] at c3
      have E := Lib.hid (And.intro e0 (And.intro e1 (And.intro e2 e3)))
      have Y := Lib.hid (And.intro y0 (And.intro y1 (And.intro y2 y3)))
      have Z := Lib.hid (And.intro z0 (And.intro z1 (And.intro z2 z3)))
      clear e0 e1 e2 e3 y0 y1 y2 y3 z0 z1 z2 z3 F hcell
      go_wp2_with fail
      go_still_tail 35, (by kernel_rfl)
      change wpList _ _ _ _ _ wr.drew
      have hcw := Hcw.out
      have hcl := hcw.cell k (wd 0) (wds_zero _ _ _ (by simp; try omega) (by simp; try omega))
      have hfz := hcw.free k
      unfold wd at hcl
      clear hcw
      go_wp2
      go_roundw
      case rel =>
        refine ⟨k + 1, by omega, by go_num, ?_, ?_⟩
        · obtain ⟨z0, z1, z2, z3⟩ := Z.out
          obtain ⟨y0, y1, y2, y3⟩ := Y.out
          obtain ⟨e0, e1, e2, e3⟩ := E.out
          rw [z0, z1, z2, z3, word_or, y0, y1, y2, y3, e1, e2, e3, e0]
          refine CB.drew ?_
          exact put_word Hcw.out hlt
        · exact (Hb.out.setCell (Nat.le_refl _) _).drew
      case measure =>
        simp only [intOf]
        omega
    · have hk16' : k = 16 := by omega
      obtain ⟨W0, hW0⟩ : ∃ W, W = words l 16 := ⟨_, rfl⟩
      have hcw : CB wr 128 (N + 1 + 1 + 1) (wds (growW W0 0 ++ List.replicate (48 - 0) 0)) := by
        rw [hW0]
        have := Hcw.out
        rw [hk16'] at this
        exact this
      have HKK := Lib.hid hk16'; clear hk16'
      have HW0 := Lib.hid hW0
      have HCW := Lib.hid hcw
      clear hW0 hcw Hcw
      have hw0l : W0.length = 16 := by rw [HW0.out]; exact words_length _ _
      have HW0l := Lib.hid hw0l; clear hw0l
      go_wp2
      rename World => wA
      clear HW1
      go_loopw [9] (fun v9 wr => ∃ n i : Nat, n ≤ 48 ∧ i = 16 + n ∧ v9 = .int .i64 (i : Int) ∧ CB wr 128 (N + 1 + 1 + 1) (wds (growW W0 n ++ List.replicate (48 - n) 0)) ∧ Below (N + 1 + 1 + 1) w1 wr)
        (fun v _ => 64 - (intOf v).toNat)
      case atStart => exact ⟨0, 16, by omega, rfl, rfl, HCW.out, Hb.out⟩
      case round =>
        obtain ⟨n, i, hn48, hi, rfl, hcw, hb⟩ := hrel
        have Hcw := Lib.hid hcw; clear hcw
        have HbA := Lib.hid hb; clear hb
        have Hi := Lib.hid hi; clear hi
        have hi64 : i ≤ 64 := by have := Hi.out; omega
        by_cases hlt : i < 64
        · have hlen : (growW W0 n).length = i := by rw [growW_length, HW0l.out]; exact Hi.out.symm
          obtain ⟨M, hM⟩ : ∃ M, M = growW W0 n := ⟨_, rfl⟩
          obtain ⟨i15, e15⟩ : ∃ m, m = i - 15 := ⟨_, rfl⟩
          obtain ⟨i16, e16⟩ : ∃ m, m = i - 16 := ⟨_, rfl⟩
          obtain ⟨i7, e7⟩ : ∃ m, m = i - 7 := ⟨_, rfl⟩
          obtain ⟨i2, e2⟩ : ∃ m, m = i - 2 := ⟨_, rfl⟩
          have F : ∀ j, j < i → wr.cell? ⟨N + 1 + 1 + 1, j, none⟩ = some (wd (M.getD j 0)) := by
            intro j hj
            have h1 := Hcw.out.cell j (wd (M.getD j 0)) (by rw [← hM]; exact wds_getL _ _ _ (by rw [hM, hlen]; exact hj))
            exact h1
          have hi16 : 16 ≤ i := by have := Hi.out; omega
          have f15 := F i15 (by omega)
          have f16 := F i16 (by omega)
          have f7 := F i7 (by omega)
          have f2 := F i2 (by omega)
          obtain ⟨x, hx⟩ : ∃ x, x = M.getD i15 0 := ⟨_, rfl⟩
          obtain ⟨y, hy⟩ : ∃ x, x = M.getD i2 0 := ⟨_, rfl⟩
          obtain ⟨a, ha⟩ : ∃ x, x = M.getD i16 0 := ⟨_, rfl⟩
          obtain ⟨b, hb⟩ : ∃ x, x = M.getD i7 0 := ⟨_, rfl⟩
          rw [← hx] at f15
          rw [← hy] at f2
          rw [← ha] at f16
          rw [← hb] at f7
          unfold wd at f15 f16 f7 f2
          obtain ⟨X, hX⟩ : ∃ n, n = x.toNat := ⟨_, rfl⟩
          obtain ⟨Y, hY⟩ : ∃ n, n = y.toNat := ⟨_, rfl⟩
          obtain ⟨A, hA⟩ : ∃ n, n = a.toNat := ⟨_, rfl⟩
          obtain ⟨B, hB⟩ : ∃ n, n = b.toNat := ⟨_, rfl⟩
          rw [← hX] at f15
          rw [← hY] at f2
          rw [← hA] at f16
          rw [← hB] at f7
          obtain ⟨R7, h7⟩ : ∃ n, n = (rr x 7).toNat := ⟨_, rfl⟩
          obtain ⟨R18, h18⟩ : ∃ n, n = (rr x 18).toNat := ⟨_, rfl⟩
          obtain ⟨R17, h17⟩ : ∃ n, n = (rr y 17).toNat := ⟨_, rfl⟩
          obtain ⟨R19, h19⟩ : ∃ n, n = (rr y 19).toNat := ⟨_, rfl⟩
          have C7 := turn_int x 7 7 X R7 (by omega) hX h7 (by omega) (by omega)
          have C18 := turn_int x 18 18 X R18 (by omega) hX h18 (by omega) (by omega)
          have C17 := turn_int y 17 17 Y R17 (by omega) hY h17 (by omega) (by omega)
          have C19 := turn_int y 19 19 Y R19 (by omega) hY h19 (by omega) (by omega)
          have g15 : IntKind.i64.wrap ((i : Int) - 15) = (i15 : Int) := by rw [IntKind.wrap_i64]; omega
          have g16 : IntKind.i64.wrap ((i : Int) - 16) = (i16 : Int) := by rw [IntKind.wrap_i64]; omega
          have g7 : IntKind.i64.wrap ((i : Int) - 7) = (i7 : Int) := by rw [IntKind.wrap_i64]; omega
          have g2 : IntKind.i64.wrap ((i : Int) - 2) = (i2 : Int) := by rw [IntKind.wrap_i64]; omega
          have b15 : (i15 : Int) < 64 := by omega
          have b16 : (i16 : Int) < 64 := by omega
          have b7 : (i7 : Int) < 64 := by omega
          have b2 : (i2 : Int) < 64 := by omega
          have bi : (i : Int) < 64 := by omega
          have E1 := Lib.hid (And.intro e15 (And.intro e16 (And.intro e7 e2)))
          have E2 := Lib.hid (And.intro hx (And.intro hy (And.intro ha hb)))
          have E3 := Lib.hid (And.intro hX (And.intro hY (And.intro hA hB)))
          have E4 := Lib.hid (And.intro h7 (And.intro h18 (And.intro h17 h19)))
          have HM := Lib.hid hM
          have HLEN := Lib.hid hlen
          clear e15 e16 e7 e2 hx hy ha hb hX hY hA hB h7 h18 h17 h19 hM hlen F
          go_wp2_with fail
          go_quiet (fail)
          obtain ⟨wq, hwq⟩ : ∃ v, v = wr.drewN nq := ⟨_, rfl⟩
          have HcQ : Hid (CB wq 128 (N + 1 + 1 + 1) (wds (growW W0 n ++ List.replicate (48 - n) 0))) := by rw [hwq]; exact Hcw
          have HbQ : Hid (Below (N + 1 + 1 + 1) w1 wq) := by rw [hwq]; exact Lib.hid (below_drewN HbA.out nq)
          have q16 : wq.cell? ⟨N + 1 + 1 + 1, i16, none⟩ = some (.int .u32 (A : Int)) := by rw [hwq]; exact f16
          have q7 : wq.cell? ⟨N + 1 + 1 + 1, i7, none⟩ = some (.int .u32 (B : Int)) := by rw [hwq]; exact f7
          rw [← hwq]
          clear f16 f7 f15 f2 Hcw HbA hwq
          go_wp2_with fail
          go_still_tail 29, (by kernel_rfl)
          still_call (C7 _)
          repeat still_step
          still_call (C18 _)
          repeat still_step
          still_call (C17 _)
          repeat still_step
          still_call (C19 _)
          repeat still_step
          refine wpStill_nil ?_
          change wpList _ _ _ _ _ wq.drew
          have hcl := HcQ.out.cell i (wd 0) (wds_zero _ _ _ (by rw [growW_length, HW0l.out]; have := Hi.out; omega) (by rw [growW_length, HW0l.out]; have := Hi.out; omega))
          have hfz := HcQ.out.free i
          unfold wd at hcl
          go_wp2
          go_roundw
          case rel =>
            have hii := Hi.out
            refine ⟨n + 1, i + 1, by omega, by omega, by go_num, ?_, ?_⟩
            · obtain ⟨hX, hY, hA, hB⟩ := E3.out
              obtain ⟨h7, h18, h17, h19⟩ := E4.out
              refine CB.drew ?_
              refine put_next HM.out HW0l.out hii HcQ.out (by omega) _ ?_
              rw [hX, hY, hA, hB, h7, h18, h17, h19, next_val]
              obtain ⟨hx, hy, ha, hb⟩ := E2.out
              obtain ⟨e15, e16, e7, e2⟩ := E1.out
              have hl0 : M.length = i := by rw [HM.out]; exact HLEN.out
              unfold nextW
              rw [hl0, hx, hy, ha, hb, e15, e16, e7, e2]
            · exact (HbQ.out.setCell (Nat.le_refl _) _).drew
          case measure =>
            simp only [intOf]
            omega
        · have hn : n = 48 := by have := Hi.out; omega
          rw [hn] at Hcw
          obtain ⟨W, hW⟩ : ∃ W, W = growW W0 48 := ⟨_, rfl⟩
          have hwl : W.length = 64 := by rw [hW, growW_length, HW0l.out]
          have hcw : CB wr 128 (N + 1 + 1 + 1) (wds W) := by
            rw [hW]
            simpa using Hcw.out
          have hS := HS1.out.below HbA.out (by omega)
          have hWP : W = growW (words l 16) 48 := by rw [hW, HW0.out]
          have fa : wr.cell? ⟨N + 1, 0, none⟩ = some (.int .u32 (s.a.toNat : Int)) := hS.cell 0 _ rfl
          have fb : wr.cell? ⟨N + 1, 1, none⟩ = some (.int .u32 (s.b.toNat : Int)) := hS.cell 1 _ rfl
          have fc : wr.cell? ⟨N + 1, 2, none⟩ = some (.int .u32 (s.c.toNat : Int)) := hS.cell 2 _ rfl
          have fd : wr.cell? ⟨N + 1, 3, none⟩ = some (.int .u32 (s.d.toNat : Int)) := hS.cell 3 _ rfl
          have fe : wr.cell? ⟨N + 1, 4, none⟩ = some (.int .u32 (s.e.toNat : Int)) := hS.cell 4 _ rfl
          have ff : wr.cell? ⟨N + 1, 5, none⟩ = some (.int .u32 (s.f.toNat : Int)) := hS.cell 5 _ rfl
          have fg : wr.cell? ⟨N + 1, 6, none⟩ = some (.int .u32 (s.g.toNat : Int)) := hS.cell 6 _ rfl
          have fh : wr.cell? ⟨N + 1, 7, none⟩ = some (.int .u32 (s.h.toNat : Int)) := hS.cell 7 _ rfl
          have HWP := Lib.hid hWP
          have HCW2 := Lib.hid hcw
          have HWL := Lib.hid hwl
          have HBA := Lib.hid HbA.out
          clear hW hwl hcw hS hWP Hcw HbA hn HCW HW0 HW0l
          go_wp2_with fail
          go_quiet (fail)
          obtain ⟨wq, hwq⟩ : ∃ v, v = wr.drewN nq := ⟨_, rfl⟩
          have HcQ : Hid (CB wq 128 (N + 1 + 1 + 1) (wds W)) := by rw [hwq]; exact HCW2
          have HbQ : Hid (Below (N + 1 + 1 + 1) w1 wq) := by rw [hwq]; exact Lib.hid (below_drewN HBA.out nq)
          rw [← hwq]
          clear fa fb fc fd fe ff fg fh hwq HCW2 HBA
          have hq64 : (decide ((i : Int) < 64)) = false := by simp; omega
          have hq16 : (decide ((k : Int) < 16)) = false := by have := HKK.out; simp; omega
          go_wp2
          rw [hq64, hq16]
          clear hq64 hq16
          go_loopw [12, 13, 14, 15, 16, 17, 18, 19, 121] (fun v12 v13 v14 v15 v16 v17 v18 v19 v121 wr => ∃ (n : Nat) (T : St), n ≤ 64 ∧ T = steps ks W s n ∧ v121 = .int .i64 (n : Int) ∧ v12 = .int .u32 (T.a.toNat : Int) ∧ v13 = .int .u32 (T.b.toNat : Int) ∧ v14 = .int .u32 (T.c.toNat : Int) ∧ v15 = .int .u32 (T.d.toNat : Int) ∧ v16 = .int .u32 (T.e.toNat : Int) ∧ v17 = .int .u32 (T.f.toNat : Int) ∧ v18 = .int .u32 (T.g.toNat : Int) ∧ v19 = .int .u32 (T.h.toNat : Int) ∧ CB wr 128 (N + 1 + 1 + 1) (wds W) ∧ Below (N + 1 + 1 + 1) w1 wr)
            (fun _ _ _ _ _ _ _ _ v _ => 64 - (intOf v).toNat)
          case atStart => exact ⟨0, s, by omega, rfl, rfl, rfl, rfl, rfl, rfl, rfl, rfl, rfl, rfl, HcQ.out, HbQ.out⟩
          case round =>
            clear HcQ HbQ
            obtain ⟨n, T, hn64, hT, rfl, rfl, rfl, rfl, rfl, rfl, rfl, rfl, rfl, hcw, hb⟩ := hrel
            have Hcw := Lib.hid hcw; clear hcw
            have HbA := Lib.hid hb; clear hb
            have HT := Lib.hid hT; clear hT
            obtain ⟨a, b, c, d, e, f, g, h⟩ := T
            simp only
            obtain ⟨Xa, ha⟩ : ∃ n, n = a.toNat := ⟨_, rfl⟩
            obtain ⟨Xb, hb⟩ : ∃ n, n = b.toNat := ⟨_, rfl⟩
            obtain ⟨Xc, hc⟩ : ∃ n, n = c.toNat := ⟨_, rfl⟩
            obtain ⟨Xd, hd⟩ : ∃ n, n = d.toNat := ⟨_, rfl⟩
            obtain ⟨Xe, he⟩ : ∃ n, n = e.toNat := ⟨_, rfl⟩
            obtain ⟨Xf, hf⟩ : ∃ n, n = f.toNat := ⟨_, rfl⟩
            obtain ⟨Xg, hg⟩ : ∃ n, n = g.toNat := ⟨_, rfl⟩
            obtain ⟨Xh, hh⟩ : ∃ n, n = h.toNat := ⟨_, rfl⟩
            rw [← ha, ← hb, ← hc, ← hd, ← he, ← hf, ← hg, ← hh]
            by_cases hlt : n < 64
            · obtain ⟨kn, hkn⟩ : ∃ x, x = ks.getD n 0 := ⟨_, rfl⟩
              obtain ⟨wn, hwn⟩ : ∃ x, x = W.getD n 0 := ⟨_, rfl⟩
              have fk : wr.cell? ⟨N, n, none⟩ = some (wd kn) := by rw [hkn]; exact (HK1.out.below HbA.out (by omega)).cell n _ (wds_get _ _ (by omega))
              have fw : wr.cell? ⟨N + 1 + 1 + 1, n, none⟩ = some (wd wn) := by rw [hwn]; exact Hcw.out.cell n _ (wds_get _ _ (by have := HWL.out; omega))
              obtain ⟨Xk, hk'⟩ : ∃ n, n = kn.toNat := ⟨_, rfl⟩
              obtain ⟨Xw, hw'⟩ : ∃ n, n = wn.toNat := ⟨_, rfl⟩
              unfold wd at fk fw
              rw [← hk'] at fk
              rw [← hw'] at fw
              obtain ⟨R6, r6⟩ : ∃ n, n = (rr e 6).toNat := ⟨_, rfl⟩
              have C6 := turn_int e 6 6 Xe R6 (by omega) he r6 (by omega) (by omega)
              obtain ⟨R11, r11⟩ : ∃ n, n = (rr e 11).toNat := ⟨_, rfl⟩
              have C11 := turn_int e 11 11 Xe R11 (by omega) he r11 (by omega) (by omega)
              obtain ⟨R25, r25⟩ : ∃ n, n = (rr e 25).toNat := ⟨_, rfl⟩
              have C25 := turn_int e 25 25 Xe R25 (by omega) he r25 (by omega) (by omega)
              obtain ⟨R2, r2⟩ : ∃ n, n = (rr a 2).toNat := ⟨_, rfl⟩
              have C2 := turn_int a 2 2 Xa R2 (by omega) ha r2 (by omega) (by omega)
              obtain ⟨R13, r13⟩ : ∃ n, n = (rr a 13).toNat := ⟨_, rfl⟩
              have C13 := turn_int a 13 13 Xa R13 (by omega) ha r13 (by omega) (by omega)
              obtain ⟨R22, r22⟩ : ∃ n, n = (rr a 22).toNat := ⟨_, rfl⟩
              have C22 := turn_int a 22 22 Xa R22 (by omega) ha r22 (by omega) (by omega)
              have bi : (n : Int) < 64 := by omega
              have E1 := Lib.hid (And.intro hkn hwn)
              have E2 := Lib.hid (And.intro ha (And.intro hb (And.intro hc (And.intro hd (And.intro he (And.intro hf (And.intro hg hh)))))))
              have E3 := Lib.hid (And.intro hk' hw')
              have E4 := Lib.hid (And.intro r6 (And.intro r11 (And.intro r25 (And.intro r2 (And.intro r13 r22)))))
              clear hkn hwn ha hb hc hd he hf hg hh hk' hw' r6 r11 r25 r2 r13 r22
              go_wp2_with fail
              refine wp_region_quiet_lit (by kernel_rfl) (by kernel_rfl) ?_
              repeat (quiet_step (fail))
              quiet_step (exact Calls.quiet_of_same (C6 _))
              repeat (quiet_step (fail))
              quiet_step (exact Calls.quiet_of_same (C11 _))
              repeat (quiet_step (fail))
              quiet_step (exact Calls.quiet_of_same (C25 _))
              repeat (quiet_step (fail))
              refine wpQuiet_nil ?_
              intro _ hw1
              obtain ⟨nq, rfl⟩ := hw1
              obtain ⟨X21, h21⟩ : ∃ n, n = (stepX kn wn ⟨a, b, c, d, e, f, g, h⟩).toNat := ⟨_, rfl⟩
              obtain ⟨X22, h22⟩ : ∃ n, n = (stepY ⟨a, b, c, d, e, f, g, h⟩).toNat := ⟨_, rfl⟩
              have hv := stepX_val a b c d e f g h kn wn
              rw [← h21, ← E3.out.1, ← E3.out.2, ← E4.out.1, ← E4.out.2.1, ← E4.out.2.2.1, ← E2.out.2.2.2.2.1, ← E2.out.2.2.2.2.2.1, ← E2.out.2.2.2.2.2.2.1, ← E2.out.2.2.2.2.2.2.2] at hv
              rw [hv]
              rw [show (if IntKind.u32.signed = true then (-1 : Int) else IntKind.u32.max) = 4294967295 from by decide]
              have H21 := Lib.hid h21
              have H22 := Lib.hid h22
              clear hv h21 h22
              go_wp2_with fail
              refine (C2 _).mono ?_
              rintro e' w' ⟨rfl, rfl⟩
              go_wp2_with fail
              refine (C13 _).mono ?_
              rintro e' w' ⟨rfl, rfl⟩
              go_wp2_with fail
              refine (C22 _).mono ?_
              rintro e' w' ⟨rfl, rfl⟩
              go_wp2_with (with_reducible refine stopAt 22 ?_)
              go_roundw
              case rel =>
                have hst : step kn wn ⟨a, b, c, d, e, f, g, h⟩ = steps ks W s (n + 1) := by
                  rw [HT.out, E1.out.1, E1.out.2]; rfl
                refine ⟨n + 1, step kn wn ⟨a, b, c, d, e, f, g, h⟩, by omega, hst, by go_num, ?_, ?_, ?_, ?_, ?_, ?_, ?_, ?_, CB.drew (CB.drew Hcw.out), ?_⟩
                · rw [← stepA_val, ← H21.out, ← E2.out.1, ← E2.out.2.1, ← E2.out.2.2.1, ← E4.out.2.2.2.1, ← E4.out.2.2.2.2.1, ← E4.out.2.2.2.2.2]
                · rw [E2.out.1]; rfl
                · rw [E2.out.2.1]; rfl
                · rw [E2.out.2.2.1]; rfl
                · rw [E2.out.2.2.2.1, H21.out, add_wd]; rfl
                · rw [E2.out.2.2.2.2.1]; rfl
                · rw [E2.out.2.2.2.2.2.1]; rfl
                · rw [E2.out.2.2.2.2.2.2.1]; rfl
                · exact below_drewN HbA.out nq
              case measure =>
                simp only [intOf]
                omega
            · have hn64' : n = 64 := by omega
              obtain ⟨T, hTT⟩ : ∃ T : St, T = ⟨a, b, c, d, e, f, g, h⟩ := ⟨_, rfl⟩
              have hTS : T = steps ks W s 64 := by rw [hTT, HT.out, hn64']
              have HTT := Lib.hid hTT
              have HTS := Lib.hid hTS
              have HN64 := Lib.hid hn64'
              have E2 := Lib.hid (And.intro ha (And.intro hb (And.intro hc (And.intro hd (And.intro he (And.intro hf (And.intro hg hh)))))))
              clear ha hb hc hd he hf hg hh HT hTT hTS hn64'
              go_wp2
              have hn64' : (decide ((n : Int) < 64)) = false := by simp; omega
              try rw [hn64']
              clear hn64'
              obtain ⟨wv, hwv, hv1, hv2, hv3⟩ := alloc_cb wr 39 (wds T.l)
              have hvs : wr.alloc (.cells #[.int .u32 (Xa : Int), .int .u32 (Xb : Int), .int .u32 (Xc : Int), .int .u32 (Xd : Int), .int .u32 (Xe : Int), .int .u32 (Xf : Int), .int .u32 (Xg : Int), .int .u32 (Xh : Int)] 39) = wv := by
                rw [hwv, HTT.out, E2.out.1, E2.out.2.1, E2.out.2.2.1, E2.out.2.2.2.1, E2.out.2.2.2.2.1, E2.out.2.2.2.2.2.1, E2.out.2.2.2.2.2.2.1, E2.out.2.2.2.2.2.2.2]
                rfl
              rw [hvs]
              obtain ⟨G, hG⟩ : ∃ G, G = wr.heap.size := ⟨_, rfl⟩
              have hGN : N + 1 + 1 + 1 + 1 ≤ G := by rw [hG, ← HZ1.out]; exact HbA.out.size
              have hvS := (HS1.out.below HbA.out (by omega)).fresh hv2
              have hvR := (HR1.out.below HbA.out (by omega)).fresh hv2
              have hvB : Below N w wv := (HB1.out.trans (HbA.out.mono (by omega))).trans (hv2.mono (by omega))
              rw [← hG] at hv1 ⊢
              have HG := Lib.hid hG
              have HV1 := Lib.hid hv1
              have HVS := Lib.hid hvS
              have HVR := Lib.hid hvR
              have HVB := Lib.hid hvB
              clear hG hvS hvR hvB hv1 hv2 hv3 hwv hvs
              rename World => wO
              go_loopw [194] (fun v194 wr => ∃ m : Nat, m ≤ 8 ∧ v194 = .int .i64 (m : Int) ∧ CB wr 99 (N + 1) (wds (mixL s.l T.l m)) ∧ CB wr 39 G (wds T.l) ∧ CB wr 99 (N + 1 + 1) (wds (List.replicate 8 0)) ∧ Below N w wr)
                (fun v _ => 8 - (intOf v).toNat)
              case atStart => exact ⟨0, by omega, rfl, HVS.out, HV1.out, HVR.out, HVB.out⟩
              case round =>
                obtain ⟨m, hm8, rfl, h1, h2, h3, h4⟩ := hrel
                have H1 := Lib.hid h1
                have H2 := Lib.hid h2
                have H3 := Lib.hid h3
                have H4 := Lib.hid h4
                clear h1 h2 h3 h4 HV1 HVS HVR HVB
                by_cases hlt : m < 8
                · obtain ⟨x, hx⟩ : ∃ x, x = s.l.getD m 0 := ⟨_, rfl⟩
                  obtain ⟨y, hy⟩ : ∃ x, x = T.l.getD m 0 := ⟨_, rfl⟩
                  have f1 : wr.cell? ⟨N + 1, m, none⟩ = some (wd x) := by rw [hx]; exact H1.out.cell m _ (mixL_get _ _ _ rfl hlt)
                  have f2 : wr.cell? ⟨G, m, none⟩ = some (wd y) := by rw [hy]; exact H2.out.cell m _ (wds_get _ _ hlt)
                  have f3 := H1.out.free m
                  obtain ⟨X, hX⟩ : ∃ n, n = x.toNat := ⟨_, rfl⟩
                  obtain ⟨Y, hY⟩ : ∃ n, n = y.toNat := ⟨_, rfl⟩
                  unfold wd at f1 f2
                  rw [← hX] at f1
                  rw [← hY] at f2
                  have bm : (m : Int) < 8 := by omega
                  have EE := Lib.hid (And.intro hx (And.intro hy (And.intro hX hY)))
                  clear hx hy hX hY
                  go_wp2
                  go_roundw
                  case rel =>
                    obtain ⟨hx, hy, hX, hY⟩ := EE.out
                    refine ⟨m + 1, by omega, by go_num, put_mix (X := s.l) (Y := T.l) rfl hlt H1.out _ ?_, H2.out.other (by show N + 1 ≠ G; omega) _, H3.out.other (by show N + 1 ≠ N + 1 + 1; omega) _, H4.out.setCell (by show N ≤ N + 1; omega) _⟩
                    rw [hX, hY, add_wd, hx, hy]
                  case measure =>
                    simp only [intOf]
                    omega
                · have hm : m = 8 := by omega
                  have h1 := H1.out
                  rw [hm, mixL_all] at h1
                  have h3 := Lib.hid H3.out
                  have HM := Lib.hid hm
                  have HH := Lib.hid h1
                  clear hm h1 H1 H2 H3
                  go_wp2_with (with_reducible refine stopAt 206 ?_)
                  refine Stop.go ?_
                  refine wpList_load_agg rfl 99 (.tmp 4) rfl ⟨N + 1, 0, none⟩ rfl (wds (s.add T).l) _ HH.out.at.load Try.underlying99 rfl (by rw [wds_length]; exact infoW8) ?_
                  go_wp2_with (with_reducible refine stopStore 99 ?_)
                  refine Stop.go ?_
                  refine wpList_store_var rfl 99 (.tmp 6) (.tmp 206) rfl (N + 1 + 1) _ rfl _ (wds (s.add T).l) rfl h3.out (by simp [wds_length, St.l]) (wds_one _) (by rw [wds_length]; exact infoW8) ?_
                  intro w9 hb9 ho9
                  have B9 : Below N w w9 := Below.only H4.out ho9 (by omega)
                  clear ho9
                  rw [HTS.out, HWP.out] at hb9
                  have HB9 := Lib.hid hb9
                  rw [HN.out] at B9
                  have HBL := Lib.hid B9
                  clear hb9 B9
                  go_wp2
                  exact bodyPost_ret (results_cell1 rfl _ _ (N + 1 + 1) _ _ _ _ rfl HB9.out Try.underlying99 rfl (by simp [St.l, wds_length, infoW8])) rfl ⟨rfl, HBL.out⟩
end Go.Proofs.Ytkbahhnjoidhcaa
