/- Disks: the document's Cut, Sync: the walks. -/
import Derived.Test.YtbbbgpdhdlknjaaEd
namespace Go.Proofs.Ytbbbgpdhdlknjaa
set_option linter.unusedVariables false
set_option linter.unusedSimpArgs false
open Go.RowKit Go.Lib

set_option maxRecDepth 100000 in
set_option maxHeartbeats 4000000 in
theorem rcut_any (w : World) (G : Nat) (pv : Value) (k : Dk) (i p : Int) (h : RK w G pv k) (hok : Ok k) (hw : k.wait.length ≤ 999999) :
    Calls Try.prog 34 #[.pointer (some ⟨G, 0, none⟩), .int .i64 i, .int .i64 p] w (PostR G pv w (if hasB i = true ∧ 0 ≤ p ∧ p ≤ ((k.now.getD i.toNat []).length : Int) then ((burnK k).1, putK k (.cut i.toNat p.toNat)) else (2, k)).2) := by
  have HH := Lib.hid h
  cases hi : hasB i with
  | false =>
    have HI := Lib.hid hi
    rw [if_neg (by simp)]
    by_cases h0 : i < 0
    · clear h hok hw hi
      go_enter Try.func34, Try.ntmps34
      go_wp2
      go_ret
      exact PostR.same HH.out (Below.refl _ _)
    · have h1 : 16 ≤ i := by have := HI.out; simp [hasB] at this; omega
      have b1 : (decide (i < 0)) = false := by simpa using h0
      have b2 : (decide (16 ≤ i)) = true := by simpa using h1
      clear h hok hw hi
      go_enter Try.func34, Try.ntmps34
      go_wp2
      go_ret
      exact PostR.same HH.out (Below.refl _ _)
  | true =>
    obtain ⟨q, rfl, hq⟩ := hasB_nat hi
    rw [Int.toNat_natCast]
    obtain ⟨K, hK⟩ : ∃ K, K = (if true = true ∧ 0 ≤ p ∧ p ≤ ((k.now.getD q []).length : Int) then ((burnK k).1, putK k (.cut q p.toNat)) else (2, k)).2 := ⟨_, rfl⟩
    rw [← hK]
    have HK := Lib.hid hK
    clear hK
    have bi : (q : Int) < 16 := by omega
    have b1 : (decide ((q : Int) < 0)) = false := by simp
    have b2 : (decide (16 ≤ q)) = false := by simp; omega
    have b3 : (decide ((16 : Int) ≤ (q : Int))) = false := by simp; omega
    by_cases hp : p < 0
    · have e1 : Hid (K = k) := Lib.hid (by rw [HK.out, if_neg (by omega)])
      have b4 : (decide (p < 0)) = true := decide_eq_true hp
      clear h hok hw hi
      go_enter Try.func34, Try.ntmps34
      go_wp2
      go_ret
      rw [e1.out]
      exact PostR.same HH.out (Below.refl _ _)
    · have b4 : (decide (p < 0)) = false := decide_eq_false hp
      obtain ⟨j0, hj0, hy0, hy1, hy2⟩ := info_parts infoPutZ
      have HJ := Lib.hid (And.intro hj0 (And.intro hy0 (And.intro hy1 hy2)))
      clear hj0 hy0 hy1 hy2 hi
      have NW := Lib.hid (rnow_any w G pv k h hok (by omega))
      obtain ⟨ls, css, hr⟩ := h
      obtain ⟨pa, pc, rfl⟩ := hr.wt.slice
      obtain ⟨N, hN⟩ : ∃ N, N = k.wait.length := ⟨_, rfl⟩
      have HR := Lib.hid hr
      have HOK := Lib.hid (And.intro hok (And.intro hw (And.intro hq hp)))
      have HN := Lib.hid hN
      rw [← hN]
      rw [← hN] at HH
      clear hr hok hw hq hN hp
      go_enter Try.func34, Try.ntmps34
      go_wp2_with fail
      refine (NW.out).mono ?_
      rintro e w1 ⟨ls1, rfl, l1, b1'⟩
      obtain ⟨v1, y, hv1, hy, hry, hgd⟩ := l1.get HOK.out.2.2.1
      obtain ⟨a1, c1, rfl⟩ := hry.slice
      obtain ⟨n, hn⟩ : ∃ n, n = y.length := ⟨_, rfl⟩
      rw [← hn] at hv1
      have hix := fun u' : World => run_index16 u' ls1 q _ HOK.out.2.2.1 hv1
      have B1 := Lib.hid b1'
      have HY := Lib.hid (And.intro hn hgd)
      have H1 := Lib.hid (HR.out.fresh B1.out)
      have hc18 := H1.out.cr.cell 18 _ (H1.out.cell 2)
      have hc16 : w1.cell? ⟨G, 16, none⟩ = some (.slice pa N pc) := by have := H1.out.cr.cell 16 _ (H1.out.cell 0); rw [← HN.out] at this; exact this
      clear NW l1 b1' hv1 hy hry hn hgd
      by_cases hfull : (n : Int) < p
      · have e1 : Hid (K = k) := Lib.hid (by rw [HK.out, if_neg (by rw [HY.out.2, ← HY.out.1]; omega)])
        have f2 : (decide ((n : Int) < p)) = true := decide_eq_true hfull
        go_wp2
        go_ret
        rw [e1.out]
        exact PostR.same HH.out B1.out
      · have e1 : Hid (K = putK k (.cut q p.toNat)) := Lib.hid (by rw [HK.out, if_pos ⟨by trivial, by have := HOK.out.2.2.2; omega, by rw [HY.out.2, ← HY.out.1]; omega⟩])
        have f2 : (decide ((n : Int) < p)) = false := decide_eq_false hfull
        obtain ⟨pn, hpn⟩ : ∃ pn : Nat, p = (pn : Int) := ⟨p.toNat, by have := HOK.out.2.2.2; omega⟩
        have HPN := Lib.hid hpn
        clear hfull hpn
        cases hdd : k.dead
        case true =>
          rw [hdd] at hc18
          have e2 : Hid (putK k (.cut q p.toNat) = k) := Lib.hid (by rw [putK, if_pos hdd])
          clear hdd
          go_wp2
          go_ret
          rw [e1.out, e2.out]
          exact PostR.same HH.out B1.out
        case false =>
          rw [hdd] at hc18
          have HD := Lib.hid hdd
          clear hdd
          go_wp2_with (at_builtin; apply Stop.mk)
          refine Stop.go ?_
          obtain ⟨w3, h3, k3, b3, s3⟩ := alloc_cb w1 83 [.int .i64 (q : Int), .int .i64 p, .bool true, .slice none 0 0]
          change wpList _ _ _ _ _ (w1.alloc (.cells [.int .i64 (q : Int), .int .i64 p, .bool true, .slice none 0 0].toArray 83))
          rw [← h3]
          have K3 : Hid (Rd w3 4 (.slice (some ⟨w1.heap.size, 0, none⟩) 1 1) 1 [.int .i64 (q : Int), .int .i64 p, .bool true, .slice none 0 0]) := Lib.hid ⟨rfl, .inr ⟨_, _, rfl, Nat.le_refl _, by unfold maxLen; omega, fun j u hj => by rw [add_at, Nat.zero_add]; exact k3.cell j u hj⟩⟩
          have B3 := Lib.hid (B1.out.tr b3)
          have H3 := Lib.hid (HR.out.fresh B3.out)
          clear h3 k3 b3 s3 hc16 hc18 hix H1
          refine wpList_append_vs _ rfl (.tmp 34) (.tmp 38) 39 rfl 83 j0 _ 4 48 Try.underlying39 HJ.out.1 HJ.out.2.1 HJ.out.2.2.1 HJ.out.2.2.2 rfl (by decide) (.slice pa N pc) N css.flatten rfl (by have := H3.out.wt; rw [← HN.out] at this; exact this) _ 1 _ rfl K3.out (by simp [Value.oneCell']) (by have := HOK.out.2.1; have := HN.out; unfold maxLen; omega) (by have := HOK.out.2.1; have := HN.out; omega) ?_
          intro v' w7 hv7 g7 gr7
          obtain ⟨a7, c7, rfl⟩ := hv7.slice
          have g7' : w3.grownBy w7 (Value.slice pa k.wait.length pc).ownBlock := by rw [← HN.out]; exact g7
          have kt7 : Kt [83] w3 w7 := Kt.grown g7' (fun j hj => H3.out.wt.tag j hj) (by simp)
          have C7 := Lib.hid (H3.out.cr.kt kt7 (by decide))
          have V7 := Lib.hid (And.intro hv7 (And.intro g7' gr7))
          clear hv7 g7 gr7 kt7 g7'
          go_wp2_with (with_reducible refine stopStore 39 ?_)
          refine Stop.go ?_
          refine wpList_store_cell rfl 39 (.tmp 41) (.tmp 39) rfl G 16 41 rfl _ (.slice a7 (N + 1) c7) rfl rfl C7.out (by rw [H3.out.len]; omega) infoSlP ?_
          intro w8 k8 o8
          have V71 := V7.out.1
          rw [HN.out] at V71 k8
          have hpc : PtC w3 [.int .i64 (q : Int), .int .i64 p, .bool true, .slice none 0 0] (.cut q p.toNat) := ⟨HOK.out.2.2.1, by rw [show p = ((p.toNat : Nat) : Int) from by have := HOK.out.2.2.2; omega]; rfl⟩
          have D8 : RK w8 G (.slice a7 (k.wait.length + 1) c7) { k with now := app k.now (.cut q p.toNat), wait := k.wait ++ [.cut q p.toNat] } := ⟨_, _, H3.out.waits V7.out.2.1 V71 k8 o8 hpc⟩
          rw [← HN.out] at D8
          have M8 : Hid (Mv G G (.slice pa N pc) w w8) := Lib.hid (((Mv.fresh B3.out).tr' (Mv.row (by rw [HN.out]; exact V7.out.2.1))).tr' (Mv.disk o8))
          have BU := rburn_any w8 G _ _ D8 HOK.out.1.f0 HOK.out.1.f1
          rw [burnK_with] at BU
          have BU' := Lib.hid BU
          clear k8 o8 V71 D8 BU hpc
          go_wp2_with fail
          refine (BU'.out).mono ?_
          rintro e w9 ⟨rfl, d9, m9⟩
          have D9 := Lib.hid (And.intro d9 m9)
          clear d9 m9
          go_wp2
          go_ret
          rw [e1.out, putK, if_neg (by simp [HD.out])]
          refine ⟨⟨_, rfl⟩, _, D9.out.1, ?_, ?_⟩
          · refine M8.out.tr D9.out.2 ?_
            intro g hg
            rcases V7.out.2.2 g hg with h | h
            · exact .inl h
            · exact .inr (Nat.le_trans B3.out.size h)
          · intro g hg
            rcases V7.out.2.2 g hg with h | h
            · exact .inl h
            · exact .inr (Nat.le_trans B3.out.size h)

set_option maxRecDepth 100000 in
set_option maxHeartbeats 4000000 in
theorem rsync_any (w : World) (G : Nat) (pv : Value) (k : Dk) (h : RK w G pv k) (hok : Ok k) (hw : k.wait.length ≤ 999999) :
    Calls Try.prog 35 #[.pointer (some ⟨G, 0, none⟩)] w (PostR G pv w (syncK k).2) := by
  have BU := Lib.hid (rburn_any w G pv k h hok.f0 hok.f1)
  have OKB := Lib.hid hok.burn
  obtain ⟨q1, q2, q3⟩ := burnK_wait k
  by_cases h0 : (burnK k).1 = 0
  · have e1 : Hid (syncK k = (0, settleK (burnK k).2 k.wait.length)) := Lib.hid (by rw [syncK, if_pos h0])
    rw [h0] at BU
    obtain ⟨k2, hk2⟩ : ∃ k2, k2 = (burnK k).2 := ⟨_, rfl⟩
    rw [← hk2] at q1 q2 q3 BU e1 OKB
    have Q := Lib.hid (And.intro q1 (And.intro q2 (And.intro q3 hw)))
    obtain ⟨K, hK⟩ : ∃ K, K = (syncK k).2 := ⟨_, rfl⟩
    rw [← hK]
    have HK := Lib.hid hK
    clear h0 hk2 q1 q2 q3 h hok hw hK
    go_enter Try.func35, Try.ntmps35
    go_wp2_with fail
    refine (BU.out).mono ?_
    rintro e w2 ⟨rfl, d2, m2⟩
    have M2 := Lib.hid m2
    have D2 := Lib.hid d2
    clear d2 m2
    go_wp2_with fail
    refine (rnow_any w2 G pv k2 D2.out OKB.out (by rw [Q.out.1]; have := Q.out.2.2.2; omega)).mono ?_
    rintro e w3 ⟨ls3, rfl, l3, b3⟩
    have L3 := Lib.hid l3
    have B3 := Lib.hid b3
    obtain ⟨ls, css, hr⟩ := D2.out.fresh b3
    have H3 := Lib.hid hr
    clear l3 b3 hr
    go_wp2_with (with_reducible refine stopStore 38 ?_)
    refine Stop.go ?_
    refine wpList_store_part rfl 38 (.tmp 13) (.tmp 11) rfl G 0 41 rfl _ ls3 rfl H3.out.cr (by rw [H3.out.len, L3.out.1]; decide) L3.out.one (by rw [L3.out.1]; exact infoL16) ?_
    intro w4 k4 o4
    have e4 : (ls ++ [pv, .int .i64 (rf k2), .bool k2.dead]).take 0 ++ ls3 ++ (ls ++ [pv, .int .i64 (rf k2), .bool k2.dead]).drop (0 + ls3.length) = ls3 ++ [pv, .int .i64 (rf k2), .bool k2.dead] := by
      rw [List.take_zero, List.nil_append, Nat.zero_add, L3.out.1, ← H3.out.ll.1, List.drop_left]
    rw [e4] at k4
    have K4 := Lib.hid k4
    have O4 := Lib.hid o4
    clear k4 o4 e4
    go_wp2_with (with_reducible refine stopStore 39 ?_)
    refine Stop.go ?_
    refine wpList_store_cell rfl 39 (.tmp 15) (.const (.slice none 0 0)) rfl G 16 41 rfl _ (.slice none 0 0) rfl rfl K4.out (by rw [List.length_append, L3.out.1]; simp) infoSlP ?_
    intro w5 k5 o5
    rw [rk_setWait L3.out.1] at k5
    have kt : Kt [41] w3 w5 := (Kt.only O4.out H3.out.cr.tag (by simp)).tr (Kt.only o5 K4.out.tag (by simp))
    have D5 : Hid (RkV w5 G ls3 (.slice none 0 0) [] k2.now [] (rf k2) k2.dead) := Lib.hid ⟨k5, L3.out.kt kt (by decide), VwS.nil _ _ _, rfl, fun i x cs hx _ => by simp at hx⟩
    have M5 : Hid (Mv G G pv w w5) := Lib.hid (((M2.out.tr' (Mv.fresh B3.out)).tr' (Mv.disk O4.out)).tr' (Mv.disk o5))
    clear k5 o5 kt
    go_wp2
    go_ret
    rw [HK.out, e1.out]
    refine ⟨⟨_, rfl⟩, .slice none 0 0, ⟨ls3, [], ?_⟩, M5.out, fun g hg => by cases hg⟩
    have hn : k2.now = (settleK k2 k.wait.length).set := by
      rw [OKB.out.now]
      simp only [settleK]
      rw [← Q.out.1, List.take_length]
    have hwt : (settleK k2 k.wait.length).wait = [] := by simp only [settleK]; rw [← Q.out.1, List.drop_length]
    have D6 := D5.out
    rw [hn] at D6
    show RkV w5 G ls3 (.slice none 0 0) [] (settleK k2 k.wait.length).set (settleK k2 k.wait.length).wait _ _
    rw [hwt]
    exact D6
  · have e1 : Hid (syncK k = burnK k) := Lib.hid (by rw [syncK, if_neg h0])
    obtain ⟨r, hr⟩ : ∃ r, r = (burnK k).1 := ⟨_, rfl⟩
    obtain ⟨K, hK⟩ : ∃ K, K = (syncK k).2 := ⟨_, rfl⟩
    rw [← hK]
    have HK := Lib.hid hK
    rw [← hr] at h0 BU
    clear hr q1 q2 q3 h hok hw hK
    go_enter Try.func35, Try.ntmps35
    go_wp2_with fail
    refine (BU.out).mono ?_
    rintro e w2 ⟨rfl, d2, m2⟩
    have D2 := Lib.hid (And.intro d2 m2)
    clear d2 m2
    go_wp2
    go_ret
    rw [HK.out, e1.out]
    exact ⟨⟨_, rfl⟩, pv, D2.out.1, D2.out.2, fun j hj => .inl hj⟩

end Go.Proofs.Ytbbbgpdhdlknjaa
