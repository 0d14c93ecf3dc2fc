/- Disks: the document's Append, Cut, Sync, Do: the walks. -/
import Derived.Test.YtbbbgpdhdlknjaaEc
namespace Go.Proofs.Ytbbbgpdhdlknjaa
set_option linter.unusedVariables false
set_option linter.unusedSimpArgs false
open Go.RowKit Go.Lib

theorem appK_full {k : Dk} {i : Nat} {b : Bs} (hd : k.dead = false) (h : 16777216 < (k.now.getD i []).length + b.length) : appK k i b = (8, k) := by
  rw [appK, if_neg (by simp [hd]), if_pos h]

theorem appK_fits {k : Dk} {i : Nat} {b : Bs} (hd : k.dead = false) (h : (k.now.getD i []).length + b.length ≤ 16777216) : appK k i b = ((burnK k).1, putK k (.put i b)) := by
  rw [appK, if_neg (by simp [hd]), if_neg (by omega)]

theorem putK_now {k : Dk} {x : St} (hd : k.dead = false) : (putK k x).now = app k.now x ∧ (putK k x).wait = k.wait ++ [x] ∧ (putK k x).dead = (burnK k).2.dead := by
  rw [putK, if_neg (by simp [hd])]
  exact ⟨rfl, rfl, rfl⟩

theorem burnK_with (k : Dk) (a : List Bs) (b : List St) : burnK { k with now := a, wait := b } = ((burnK k).1, { (burnK k).2 with now := a, wait := b }) := by
  unfold burnK
  split
  · rfl
  · split
    · split <;> rfl
    · rfl

theorem RK.idx {w : World} {G : Nat} {pv : Value} {k : Dk} (h : RK w G pv k) : ∀ (j i : Nat) (b : Bs), k.wait[j]? = some (.put i b) → i < 16 := by
  obtain ⟨ls, css, h⟩ := h
  intro j i b hj
  have hl : j < k.wait.length := (List.getElem?_eq_some_iff.1 hj).1
  exact (h.ws j _ _ hj (List.getElem?_eq_getElem (by rw [h.wl]; exact hl))).1

theorem rnow_any (w : World) (G : Nat) (pv : Value) (k : Dk) (h : RK w G pv k) (hok : Ok k) (hw : k.wait.length ≤ 1000000) :
    Calls Try.prog 44 #[.pointer (some ⟨G, 0, none⟩)] w fun e w' => ∃ ls', e = .returned (.agg ls'.toArray) ∧ Lg w' ls' k.now ∧ Below w.heap.size w w' := by
  have := now_any w G pv k.set k.wait (rf k) k.dead h hok.pre (fun j i b hj => hok.put_le hj (h.idx j i b hj)) hw
  rw [← hok.now] at this
  exact this

set_option maxRecDepth 100000 in
set_option maxHeartbeats 4000000 in
theorem rappend_any (w : World) (G : Nat) (pv : Value) (k : Dk) (i : Int) (u : Value) (b : Bs) (h : RK w G pv k) (hok : Ok k) (hw : k.wait.length ≤ 999999) (hu : Rd w 1 u b.length (bvs b)) (hbl : b.length ≤ 20000) :
    Calls Try.prog 33 #[.pointer (some ⟨G, 0, none⟩), .int .i64 i, u] w (PostR G pv w (if hasB i = true then appK k i.toNat b else (2, k)).2) := by
  obtain ⟨a0, c0, rfl⟩ := hu.slice
  have HH := Lib.hid h
  cases hi : hasB i with
  | false =>
    have HI := Lib.hid hi
    by_cases h0 : i < 0
    · clear h hok hw hu hbl hi
      go_enter Try.func33, Try.ntmps33
      go_wp2
      go_ret
      exact PostR.same HH.out (Below.refl _ _)
    · have h1 : 16 ≤ i := by have := HI.out; simp [hasB] at this; omega
      have b1 : (decide (i < 0)) = false := by simpa using h0
      have b2 : (decide (16 ≤ i)) = true := by simpa using h1
      clear h hok hw hu hbl hi
      go_enter Try.func33, Try.ntmps33
      go_wp2
      go_ret
      exact PostR.same HH.out (Below.refl _ _)
  | true =>
    obtain ⟨q, rfl, hq⟩ := hasB_nat hi
    rw [if_pos rfl, Int.toNat_natCast]
    obtain ⟨i0, hi0, hz0, hz1, hz2⟩ := info_parts infoU8
    obtain ⟨j0, hj0, hy0, hy1, hy2⟩ := info_parts infoPutZ
    have HU := Lib.hid (And.intro hi0 (And.intro hz0 (And.intro hz1 hz2)))
    have HJ := Lib.hid (And.intro hj0 (And.intro hy0 (And.intro hy1 hy2)))
    clear hi0 hz0 hz1 hz2 hj0 hy0 hy1 hy2 hi
    have NW := Lib.hid (rnow_any w G pv k h hok (by omega))
    obtain ⟨ls, css, hr⟩ := h
    obtain ⟨pa, pc, rfl⟩ := hr.wt.slice
    obtain ⟨N, hN⟩ : ∃ N, N = k.wait.length := ⟨_, rfl⟩
    obtain ⟨m, hm⟩ : ∃ m, m = b.length := ⟨_, rfl⟩
    have hc18 := hr.cr.cell 18 _ (hr.cell 2)
    have HR := Lib.hid hr
    have HOK := Lib.hid (And.intro hok (And.intro hw hq))
    have HUU := Lib.hid hu
    have HM := Lib.hid (And.intro hm hbl)
    have HN := Lib.hid hN
    have bi : (q : Int) < 16 := by omega
    have bi' : ¬ (16 : Int) ≤ (q : Int) := by omega
    have b1 : (decide ((q : Int) < 0)) = false := by simp
    have b2 : (decide (16 ≤ q)) = false := by simp; omega
    have b3 : (decide ((16 : Int) ≤ (q : Int))) = false := by simp; omega
    have bm : (m : Int) ≤ 20000 := by omega
    rw [← hm, ← hN]
    rw [← hN] at HH
    clear hr hok hw hu hbl hq hm hN
    cases hdd : k.dead
    case true =>
      rw [hdd] at hc18
      have e1 : Hid ((appK k q b).2 = k) := Lib.hid (by simp [appK, hdd])
      rw [e1.out]
      clear hdd NW
      go_enter Try.func33, Try.ntmps33
      go_wp2
      go_ret
      exact PostR.same HH.out (Below.refl _ _)
    case false =>
      rw [hdd] at hc18
      have HD := Lib.hid hdd
      clear hdd
      go_enter Try.func33, Try.ntmps33
      go_wp2_with fail
      refine (NW.out).mono ?_
      rintro e w1 ⟨ls1, rfl, l1, b1⟩
      obtain ⟨v1, y, hv1, hy, hry, hgd⟩ := l1.get HOK.out.2.2
      obtain ⟨a1, c1, rfl⟩ := hry.slice
      obtain ⟨n, hn⟩ : ∃ n, n = y.length := ⟨_, rfl⟩
      rw [← hn] at hv1
      have hix := fun u' : World => run_index16 u' ls1 q _ HOK.out.2.2 hv1
      have B1 := Lib.hid b1
      have bn : (n : Int) ≤ 16777216 := by have := HOK.out.1.get q; rw [hgd] at this; omega
      have HY := Lib.hid (And.intro hn hgd)
      clear NW l1 b1 hv1 hy hry hn hgd hc18
      by_cases hfull : 16777216 < n + m
      · have e1 : Hid ((appK k q b).2 = k) := Lib.hid (by rw [appK_full HD.out (by rw [HY.out.2, ← HY.out.1, ← HM.out.1]; exact hfull)])
        have f1 : 16777216 - (n : Int) < (m : Int) := by omega
        have f2 : (decide (16777216 - (n : Int) < (m : Int))) = true := decide_eq_true f1
        go_wp2
        go_ret
        rw [e1.out]
        exact PostR.same HH.out B1.out
      · have e1 : Hid ((appK k q b).2 = putK k (.put q b)) := Lib.hid (by rw [appK_fits HD.out (by rw [HY.out.2, ← HY.out.1, ← HM.out.1]; omega)])
        have f1 : ¬ 16777216 - (n : Int) < (m : Int) := by omega
        have f2 : (decide (16777216 - (n : Int) < (m : Int))) = false := decide_eq_false f1
        clear hfull
        have H1 := Lib.hid (HR.out.fresh B1.out)
        have hS : Hid (w1.drew.cell? ⟨G, 16, none⟩ = some (.slice pa N pc)) := Lib.hid (by have := H1.out.cr.drew.cell 16 _ (H1.out.cell 0); rw [← HN.out] at this; exact this)
        go_wp2_with fail
        clear hix f1 f2
        refine pf_start 14 rfl (fun w' => w'.cell? ⟨G, 16, none⟩ = some (.slice pa N pc)) (fun i => i == 13) (by kernel_rfl) ?_
        obtain ⟨wd, hwd⟩ : ∃ wd, wd = w1.drew := ⟨_, rfl⟩
        have BD : Hid (Below w1.heap.size w1 wd) := Lib.hid (by rw [hwd]; exact (Below.refl _ w1).drew)
        rw [← hwd] at hS ⊢
        clear hwd
        refine pf_take (i := 0) 26 rfl rfl rfl (by kernel_rfl) (by kernel_rfl) (by kernel_rfl) (by kernel_rfl) (by kernel_rfl) (by simp [Act.put]) hS.out ?_
        apply Exists.intro
        refine And.intro (fun w' hS' => ?_) ?_
        · clear hS'
          go_wp2
          first
            | exact ⟨trivial, rfl⟩
            | exact rfl
        refine pf_take (i := 1) 27 rfl rfl rfl (by kernel_rfl) (by kernel_rfl) (by kernel_rfl) (by kernel_rfl) (by kernel_rfl) (by simp [Act.put]) hS.out ?_
        apply Exists.intro
        refine And.intro (fun w' hS' => ?_) ?_
        · clear hS'
          go_wp2
          first
            | exact ⟨trivial, rfl⟩
            | exact rfl
        refine pf_take (i := 2) 28 rfl rfl rfl (by kernel_rfl) (by kernel_rfl) (by kernel_rfl) (by kernel_rfl) (by kernel_rfl) (by simp [Act.put]) hS.out ?_
        apply Exists.intro
        refine And.intro (fun w' hS' => ?_) ?_
        · clear hS'
          go_wp2
          first
            | exact ⟨trivial, rfl⟩
            | exact rfl
        refine pf_take (i := 3) 29 rfl rfl rfl (by kernel_rfl) (by kernel_rfl) (by kernel_rfl) (by kernel_rfl) (by kernel_rfl) (by simp [Act.put]) hS.out ?_
        apply Exists.intro
        refine And.intro (fun w' hS' => ?_) ?_
        · clear hS'
          go_wp2
          first
            | exact ⟨trivial, rfl⟩
            | exact rfl
        refine pf_take (i := 4) 30 rfl rfl rfl (by kernel_rfl) (by kernel_rfl) (by kernel_rfl) (by kernel_rfl) (by kernel_rfl) (by simp [Act.put]) hS.out ?_
        apply Exists.intro
        refine And.intro (fun w' hS' => ?_) ?_
        · have hc := hS'
          clear hS'
          go_wp2
          first
            | exact ⟨trivial, rfl⟩
            | exact rfl
        refine pf_take (i := 5) 31 rfl rfl rfl (by kernel_rfl) (by kernel_rfl) (by kernel_rfl) (by kernel_rfl) (by kernel_rfl) (by simp [Act.put]) hS.out ?_
        apply Exists.intro
        refine And.intro (fun w' hS' => ?_) ?_
        · clear hS'
          go_wp2
          first
            | exact ⟨trivial, rfl⟩
            | exact rfl
        refine pf_take (i := 6) 32 rfl rfl rfl (by kernel_rfl) (by kernel_rfl) (by kernel_rfl) (by kernel_rfl) (by kernel_rfl) (by simp [Act.put]) hS.out ?_
        apply Exists.intro
        refine And.intro (fun w' hS' => ?_) ?_
        · clear hS'
          go_wp2
          first
            | exact ⟨trivial, rfl⟩
            | exact rfl
        have BW := Lib.hid (B1.out.tr BD.out)
        refine pf_heavy (i := 7) rfl (by kernel_rfl) ?_
        refine wpList_append_rd _ rfl (.const (.slice none 0 0)) (.tmp 32) 29 rfl wd.heap.size 5 i0 (.int .u8 0) 1 1 Try.underlying29 HU.out.1 HU.out.2.1 HU.out.2.2.1 HU.out.2.2.2 rfl (by decide) (.slice none 0 0) 0 [] rfl (World.ownsRow_nil _ _ _ _) (.slice a0 m c0) m (bvs b) rfl (by have := HUU.out.fresh BW.out; rw [← HM.out.1] at this; exact this) (bvs_one _) (by unfold maxLen; omega) (by omega) (Nat.le_refl _) ?_
        intro v2 w2 o2 g2 _ n2
        rw [Nat.zero_add, List.nil_append, HM.out.1] at o2
        have b2' : Below wd.heap.size wd w2 := Below.grown (Below.refl _ wd) g2 (Nat.le_refl _) (fun j hj => by cases hj)
        have R2 := Lib.hid (RdU.of_own o2 (noAv _))
        obtain ⟨a2, c2, hv2⟩ := R2.out.slice
        rw [← HM.out.1] at hv2
        subst hv2
        have B2 := Lib.hid (BW.out.tr b2')
        have h1 := cell_kept hS.out b2'
        clear hS o2 g2 n2 b2'
        have hS := Lib.hid h1
        clear h1
        go_wp2
        refine And.intro hS.out ?_
        refine pf_heavy (i := 8) rfl (by kernel_rfl) ?_
        go_wp2
        refine And.intro hS.out ?_
        refine pf_heavy (i := 9) rfl (by kernel_rfl) ?_
        go_wp2
        obtain ⟨w3, h3, k3, b3, s3⟩ := alloc_cb w2 83 [.int .i64 (q : Int), .int .i64 0, .bool false, .slice a2 m c2]
        have hq1 := cell_kept hS.out b3
        refine And.intro (by rw [h3] at hq1; exact hq1) ?_
        change wpAnyF _ _ _ _ _ _ _ _ (w2.alloc (.cells [.int .i64 (q : Int), .int .i64 0, .bool false, .slice a2 m c2].toArray 83))
        rw [← h3]
        have K3 : Hid (Rd w3 4 (.slice (some ⟨w2.heap.size, 0, none⟩) 1 1) 1 [.int .i64 (q : Int), .int .i64 0, .bool false, .slice a2 m c2]) := Lib.hid ⟨rfl, .inr ⟨_, _, rfl, Nat.le_refl _, by unfold maxLen; omega, fun j u hj => by rw [add_at, Nat.zero_add]; exact k3.cell j u hj⟩⟩
        have B3 := Lib.hid (B2.out.tr b3)
        have R3 := Lib.hid (R2.out.fresh b3)
        have H3 := Lib.hid (HR.out.fresh B3.out)
        clear h3 hS k3 b3 s3
        have hS := Lib.hid hq1
        clear hq1
        refine pf_heavy (i := 10) rfl (by kernel_rfl) ?_
        refine wpList_append_vs _ rfl (.tmp 30) (.tmp 35) 39 rfl 83 j0 _ 4 48 Try.underlying39 HJ.out.1 HJ.out.2.1 HJ.out.2.2.1 HJ.out.2.2.2 rfl (by decide) (.slice pa N pc) N css.flatten rfl (by have := H3.out.wt; rw [← HN.out] at this; exact this) _ 1 _ rfl K3.out (by simp [Value.oneCell']) (by have := HOK.out.2.1; have := HN.out; unfold maxLen; omega) (by have := HOK.out.2.1; have := HN.out; omega) ?_
        intro v' w7 hv7 g7 gr7
        obtain ⟨a7, c7, rfl⟩ := hv7.slice
        have g7' : w3.grownBy w7 (Value.slice pa k.wait.length pc).ownBlock := by rw [← HN.out]; exact g7
        have kt7 : Kt [83] w3 w7 := Kt.grown g7' (fun j hj => H3.out.wt.tag j hj) (by simp)
        have C7 := Lib.hid (H3.out.cr.kt kt7 (by decide))
        have h1 : w7.cell? ⟨G, 16, none⟩ = some (.slice pa N pc) := by
          have := C7.out.cell 16 _ (H3.out.cell 0)
          rw [← HN.out] at this
          exact this
        have V7 := Lib.hid (And.intro hv7 (And.intro g7' gr7))
        clear hS hv7 g7 gr7 kt7 g7'
        have hS := Lib.hid h1
        clear h1
        go_wp2
        refine And.intro hS.out ?_
        refine pf_free (i := 11) 37 rfl rfl rfl (by kernel_rfl) (by kernel_rfl) (by kernel_rfl) rfl (by simp [Act.put]) (fun _ => hS.out) ?_
        apply Exists.intro
        refine And.intro (fun w' => ?_) ?_
        · go_wp2
          first
            | exact ⟨trivial, rfl⟩
            | exact rfl
        refine pf_take (i := 12) 38 rfl rfl rfl (by kernel_rfl) (by kernel_rfl) (by kernel_rfl) (by kernel_rfl) (by kernel_rfl) (by simp [Act.put]) hS.out ?_
        apply Exists.intro
        refine And.intro (fun w' hS' => ?_) ?_
        · clear hS'
          go_wp2
          first
            | exact ⟨trivial, rfl⟩
            | exact rfl
        refine pf_last (i := 13) rfl (by kernel_rfl) (by kernel_rfl) ?_
        refine wpList_store_cell rfl 39 (.tmp 38) (.tmp 36) rfl G 16 41 rfl _ (.slice a7 (N + 1) c7) rfl rfl C7.out (by rw [H3.out.len]; omega) infoSlP ?_
        intro w8 k8 o8
        have V71 := V7.out.1
        rw [HN.out] at V71 k8
        have D8 : RK w8 G (.slice a7 (k.wait.length + 1) c7) { k with now := app k.now (.put q b), wait := k.wait ++ [.put q b] } := ⟨_, _, H3.out.waits V7.out.2.1 V71 k8 o8 ⟨HOK.out.2.2, _, rfl, by have := R3.out; exact this⟩⟩
        rw [← HN.out] at D8
        have M8 : Hid (Mv G G (.slice pa N pc) w w8) := Lib.hid (((Mv.fresh B3.out).tr' (Mv.row (by rw [HN.out]; exact V7.out.2.1))).tr' (Mv.disk o8))
        have BU := rburn_any w8 G _ _ D8 HOK.out.1.f0 HOK.out.1.f1
        rw [burnK_with] at BU
        have BU' := Lib.hid BU
        clear k8 o8 V71 D8 BU
        go_wp2
        refine pf_done (by kernel_rfl) ?_
        go_wp2_with fail
        refine BU'.out.mono ?_
        rintro e w9 ⟨rfl, d9, m9⟩
        have D9 := Lib.hid (And.intro d9 m9)
        clear d9 m9
        go_wp2
        go_ret
        rw [e1.out, putK, if_neg (by simp [HD.out])]
        refine ⟨⟨_, rfl⟩, _, D9.out.1, ?_, ?_⟩
        · refine M8.out.tr D9.out.2 ?_
          intro g hg
          rcases V7.out.2.2 g hg with h | h
          · exact .inl h
          · exact .inr (Nat.le_trans B3.out.size h)
        · intro g hg
          rcases V7.out.2.2 g hg with h | h
          · exact .inl h
          · exact .inr (Nat.le_trans B3.out.size h)

end Go.Proofs.Ytbbbgpdhdlknjaa
