/- Disks: a copy: the walk. -/
import Derived.Test.YtbbbgpdhdlknjaaDr
namespace Go.Proofs.Ytbbbgpdhdlknjaa
set_option linter.unusedVariables false
set_option linter.unusedSimpArgs false
open Go.RowKit Go.Lib

def zeroC : List Value := .pointer none :: (noLogs ++ [.slice none 0 0, .int .i64 0, .bool false, .bool false])


theorem dkC_one {S : Nat} {ns : List Value} {wv : Value} {f : Int} {a d : Bool} (h : ∀ u ∈ ns, u.oneCell' = true) (hw : wv.oneCell' = true) : ∀ u ∈ dkC S ns wv f a d, u.oneCell' = true := by
  intro u hu
  simp only [dkC, List.mem_cons, List.mem_append, List.not_mem_nil, or_false] at hu
  rcases hu with rfl | hu | rfl | rfl | rfl | rfl
  · rfl
  · exact h u hu
  · exact hw
  · rfl
  · rfl
  · rfl

theorem dkC_setSet {S S2 : Nat} {ns : List Value} {wv : Value} {f : Int} {a d : Bool} : (dkC S ns wv f a d).set 0 (.pointer (some ⟨S2, 0, none⟩)) = dkC S2 ns wv f a d := rfl

set_option maxRecDepth 100000 in
set_option maxHeartbeats 4000000 in
theorem copy_any [Inhabited (Option Nat)] (w : World) (D S : Nat) (wv : Value) (k : Dk) (h : DkAt w D S wv k) (hok : Ok k) (hw : k.wait.length ≤ 1000000) (hav : Av w.heap.size) :
    Calls Try.prog 25 #[.pointer (some ⟨D, 0, none⟩)] w fun e w' => ∃ wv2, e = .returned (.pointer (some ⟨w.heap.size, 0, none⟩)) ∧ Own w.heap.size w w' w.heap.size (w.heap.size + 1) wv2 k := by
  have T := Lib.hid (there_any w D S wv k h)
  obtain ⟨vs, ns, css, hd⟩ := h
  obtain ⟨av, cv, rfl⟩ := hd.wt.slice
  have HD := Lib.hid hd
  have OK := Lib.hid hok
  have AV := Lib.hid hav
  obtain ⟨L, hL⟩ : ∃ L, L = k.wait.length := ⟨_, rfl⟩
  have hload : Hid (At w D 0 (dkC S ns (.slice av L cv) k.fuse k.armed k.dead)) := Lib.hid (by rw [hL]; exact At.block hd.cd)
  have HL := Lib.hid (And.intro hL hw)
  rw [← hL] at HD
  have hc17' := hd.cd.cell 17 _ (dkC_tail hd.ln.1 0)
  rw [← hL] at hc17'
  have C17 := Lib.hid hc17'
  clear hd hok hw hL hc17' hav
  go_enter Try.func25, Try.ntmps25
  go_wp2_with fail
  refine (T.out).mono ?_
  rintro e w1 ⟨rfl, rfl⟩
  go_wp2_with (with_reducible refine stopAt 10 ?_)
  refine Stop.go ?_
  refine wpList_load_agg rfl 65 (.tmp 9) rfl ⟨D, 0, none⟩ rfl (dkC S ns (.slice av L cv) k.fuse k.armed k.dead) _ hload.out.load Try.underlying65 rfl (by rw [dkC_length HD.out.ln.1]; exact infoDisk) ?_
  go_wp2_with (with_reducible refine stopStore 65 ?_)
  refine Stop.go ?_
  obtain ⟨w1, h1, k1, b1, s1⟩ := alloc_cb w 65 zeroC
  change wpList _ _ _ _ _ (w.alloc (.cells zeroC.toArray 65))
  rw [← h1]
  refine wpList_store_var rfl 65 (.tmp 3) (.tmp 10) rfl w.heap.size _ rfl _ (dkC S ns (.slice av L cv) k.fuse k.armed k.dead) rfl k1 (by rw [dkC_length HD.out.ln.1]; rfl) (dkC_one HD.out.ln.one rfl) (by rw [dkC_length HD.out.ln.1]; exact infoDisk) ?_
  intro w2 k2 o2
  have B2 := Lib.hid (Below.only b1 o2 (Nat.le_refl _))
  have S2 : Hid (w2.heap.size = w.heap.size + 1) := Lib.hid (o2.size.trans s1)
  have K2 : Hid (CB w2 65 w.heap.size (dkC S ns (.slice av L cv) k.fuse k.armed k.dead)) := Lib.hid k2
  clear h1 k1 b1 s1 k2 o2
  have hc17 : (w2.alloc (.cells #[.slice none 0 0, .slice none 0 0, .slice none 0 0, .slice none 0 0, .slice none 0 0, .slice none 0 0, .slice none 0 0, .slice none 0 0, .slice none 0 0, .slice none 0 0, .slice none 0 0, .slice none 0 0, .slice none 0 0, .slice none 0 0, .slice none 0 0, .slice none 0 0] 62)).cell? ⟨D, 17, none⟩ = some (.slice av L cv) := cell_kept C17.out (B2.out.tr ((Below.refl _ w2).alloc (Nat.le_refl _) _))
  go_wp2_with fail
  obtain ⟨w3, h3, k3, b3, s3⟩ := alloc_cb w2 62 noLogs
  change Calls _ _ _ (w2.alloc (.cells noLogs.toArray 62)) _
  rw [← h3]
  rw [S2.out] at k3 ⊢
  have B3 := Lib.hid (B2.out.tr b3)
  have K3 := Lib.hid (K2.out.fresh b3)
  have L3 := Lib.hid k3
  have WT3 := (HD.out.wt.fresh B3.out).rd
  have one3 : ∀ u ∈ css.flatten, u.oneCell' = true := by
    intro u hu
    obtain ⟨cs, hcs, hu⟩ := List.mem_flatten.1 hu
    obtain ⟨i, hi⟩ := List.mem_iff_getElem?.1 hcs
    have hl : i < k.wait.length := by rw [← HD.out.wl]; exact (List.getElem?_eq_some_iff.1 hi).1
    exact (HD.out.ws i _ cs (List.getElem?_eq_getElem hl) hi).len.2 u hu
  rw [← HL.out.1] at WT3
  refine (clone_step w3 _ L css.flatten WT3 one3 (by have := HL.out; omega)).mono ?_
  rintro e w4 ⟨v4, rfl, o4, b4⟩
  have V4 := Lib.hid (VwS.of_own o4)
  have OW4 : Hid (∀ g, v4.ownBlock = some g → w.heap.size ≤ g) := Lib.hid (fun g hg => Nat.le_trans B3.out.size (o4.lt g hg).1)
  have B4 := Lib.hid (B3.out.tr b4)
  have K4 := Lib.hid (K3.out.fresh b4)
  have L4 := Lib.hid (L3.out.fresh b4)
  obtain ⟨a4, c4, rfl⟩ := V4.out.slice
  clear h3 k3 b3 s3 WT3 one3 o4 b4 K3 L3 K2 hc17
  go_wp2_with (with_reducible refine stopStore 61 ?_)
  refine Stop.go ?_
  refine wpList_store_cell rfl 61 (.tmp 18) (.tmp 12) rfl w.heap.size 0 65 rfl _ (.pointer (some ⟨w.heap.size + 1, 0, none⟩)) rfl rfl K4.out (by rw [dkC_length HD.out.ln.1]; omega) infoPLg ?_
  intro w5 k5 o5
  rw [dkC_setSet] at k5
  have K5 := Lib.hid k5
  have O5 := Lib.hid o5
  clear k5 o5
  go_wp2_with (with_reducible refine stopStore 63 ?_)
  refine Stop.go ?_
  refine wpList_store_cell rfl 63 (.tmp 19) (.tmp 17) rfl w.heap.size 17 65 rfl _ (.slice a4 L c4) rfl rfl K5.out (by rw [dkC_length HD.out.ln.1]; omega) infoSlS ?_
  intro w6 k6 o6
  rw [dkC_setWait HD.out.ln.1] at k6
  have B6 := Lib.hid (Below.only (Below.only B4.out O5.out (Nat.le_refl _)) o6 (Nat.le_refl _))
  have KT : Kt [65] w4 w6 := (Kt.only O5.out K4.out.tag (by simp)).tr (Kt.only o6 K5.out.tag (by simp))
  have HD4 := HD.out.fresh B4.out
  have D6 : Hid (DkV w6 w.heap.size (w.heap.size + 1) noLogs ns (.slice a4 L c4) css { k with set := nowJ k.set 0 }) := Lib.hid ⟨k6, L4.out.kt KT (by decide), by rw [nowJ_zero]; exact Lg.none _, HD4.ln.kt KT (by decide), by have := V4.out.kt KT (by decide); rw [HL.out.1] at this ⊢; exact this, HD4.wl, fun i x cs hx hc => (HD4.ws i x cs hx hc).kt KT (by decide) (by decide) (by decide)⟩
  clear k6 o6 KT HD4 K4 K5 O5 L4 B4
  go_wp2
  go_loopw [20] (fun v20 wr => Below w.heap.size w wr ∧ ∃ j : Nat, j ≤ 16 ∧ v20 = .int .i64 (j : Int) ∧ ∃ vs' ns', DkV wr w.heap.size (w.heap.size + 1) vs' ns' (.slice a4 L c4) css { k with set := nowJ k.set j })
    (fun v _ => 16 - (RowKit.intOf v).toNat)
  case atStart => exact ⟨B6.out, 0, Nat.zero_le _, rfl, _, _, D6.out⟩
  case round =>
    obtain ⟨hb, j, hj, rfl, vs1, ns1, hd⟩ := hrel
    have HB := Lib.hid hb
    have HR := Lib.hid hd
    clear hb hd
    by_cases hjn : j < 16
    · have ij : (j : Int) < 16 := by omega
      have HDR := HD.out.fresh HB.out.drew
      obtain ⟨u1, b1, hu1, hb1, hrd1, hg1⟩ := HDR.lv.get hjn
      obtain ⟨u2, b2, hu2, hb2, hrd2, hg2⟩ := HDR.ln.get hjn
      obtain ⟨a1, c1, rfl⟩ := hrd1.slice
      obtain ⟨a2, c2, rfl⟩ := hrd2.slice
      have hS : Hid (wr.drew.cell? ⟨D, 0, none⟩ = some (.pointer (some ⟨S, 0, none⟩)) ∧ wr.drew.cell? ⟨S, j, none⟩ = some (.slice a1 b1.length c1) ∧ wr.drew.cell? ⟨D, 1 + j, none⟩ = some (.slice a2 b2.length c2) ∧ wr.drew.cell? ⟨w.heap.size, 0, none⟩ = some (.pointer (some ⟨w.heap.size + 1, 0, none⟩))) := Lib.hid ⟨HDR.cd.cell 0 _ rfl, HDR.cs.cell j _ hu1, by rw [Nat.add_comm 1 j]; exact HDR.cd.cell (j + 1) _ ((dkC_now HDR.ln.1 hjn).trans hu2), HR.out.cd.drew.cell 0 _ rfl⟩
      have bl1 : b1.length ≤ 16777216 := OK.out.pre 0 b1 (List.mem_of_getElem? hb1)
      have bl2 : b2.length ≤ 16777216 := OK.out.nl b2 (List.mem_of_getElem? hb2)
      have CL1 := Lib.hid (clone_any wr.drew _ b1 hrd1 (by omega))
      have HQ := Lib.hid (And.intro hb1 (And.intro hb2 (And.intro hrd2 bl2)))
      have HJ := Lib.hid (And.intro hj hjn)
      have BD : Hid (Below wr.heap.size wr wr.drew) := Lib.hid (Below.refl _ wr).drew
      clear HDR hu1 hb1 hrd1 hg1 hu2 hb2 hrd2 hg2 bl1 bl2 hj hjn
      go_wp2_with fail
      refine pf_start 26 rfl (fun w' => w'.cell? ⟨D, 0, none⟩ = some (.pointer (some ⟨S, 0, none⟩)) ∧ w'.cell? ⟨S, j, none⟩ = some (.slice a1 b1.length c1) ∧ w'.cell? ⟨D, 1 + j, none⟩ = some (.slice a2 b2.length c2) ∧ w'.cell? ⟨w.heap.size, 0, none⟩ = some (.pointer (some ⟨w.heap.size + 1, 0, none⟩))) (fun i => i == 22 || i == 25) (by kernel_rfl) ?_
      refine pf_take (i := 0) 23 rfl rfl rfl (by kernel_rfl) (by kernel_rfl) (by kernel_rfl) (by kernel_rfl) (by kernel_rfl) (by simp [Act.put]) hS.out ?_
      apply Exists.intro
      refine And.intro (fun w' hS' => ?_) ?_
      · clear hS'
        go_wp2
        first
          | exact ⟨trivial, rfl⟩
          | exact rfl
      refine pf_take (i := 1) 24 rfl rfl rfl (by kernel_rfl) (by kernel_rfl) (by kernel_rfl) (by kernel_rfl) (by kernel_rfl) (by simp [Act.put]) hS.out ?_
      apply Exists.intro
      refine And.intro (fun w' hS' => ?_) ?_
      · have hc := hS'.2.2.2
        clear hS'
        go_wp2
        first
          | exact ⟨trivial, rfl⟩
          | exact rfl
      refine pf_take (i := 2) 25 rfl rfl rfl (by kernel_rfl) (by kernel_rfl) (by kernel_rfl) (by kernel_rfl) (by kernel_rfl) (by simp [Act.put]) hS.out ?_
      apply Exists.intro
      refine And.intro (fun w' hS' => ?_) ?_
      · clear hS'
        go_wp2
        first
          | exact ⟨trivial, rfl⟩
          | exact rfl
      refine pf_free (i := 3) 26 rfl rfl rfl (by kernel_rfl) (by kernel_rfl) (by kernel_rfl) rfl (by simp [Act.put]) (fun _ => hS.out) ?_
      apply Exists.intro
      refine And.intro (fun w' => ?_) ?_
      · go_wp2
        first
          | exact ⟨trivial, rfl⟩
          | exact rfl
      refine pf_take (i := 4) 27 rfl rfl rfl (by kernel_rfl) (by kernel_rfl) (by kernel_rfl) (by kernel_rfl) (by kernel_rfl) (by simp [Act.put]) hS.out ?_
      apply Exists.intro
      refine And.intro (fun w' hS' => ?_) ?_
      · clear hS'
        go_wp2
        first
          | exact ⟨trivial, rfl⟩
          | exact rfl
      refine pf_take (i := 5) 28 rfl rfl rfl (by kernel_rfl) (by kernel_rfl) (by kernel_rfl) (by kernel_rfl) (by kernel_rfl) (by simp [Act.put]) hS.out ?_
      apply Exists.intro
      refine And.intro (fun w' hS' => ?_) ?_
      · clear hS'
        go_wp2
        first
          | exact ⟨trivial, rfl⟩
          | exact rfl
      refine pf_take (i := 6) 29 rfl rfl rfl (by kernel_rfl) (by kernel_rfl) (by kernel_rfl) (by kernel_rfl) (by kernel_rfl) (by simp [Act.put]) hS.out ?_
      apply Exists.intro
      refine And.intro (fun w' hS' => ?_) ?_
      · clear hS'
        go_wp2
        first
          | exact ⟨trivial, rfl⟩
          | exact rfl
      refine pf_take (i := 7) 30 rfl rfl rfl (by kernel_rfl) (by kernel_rfl) (by kernel_rfl) (by kernel_rfl) (by kernel_rfl) (by simp [Act.put]) hS.out ?_
      apply Exists.intro
      refine And.intro (fun w' hS' => ?_) ?_
      · have hc := hS'.1
        clear hS'
        go_wp2
        first
          | exact ⟨trivial, rfl⟩
          | exact rfl
      refine pf_take (i := 8) 31 rfl rfl rfl (by kernel_rfl) (by kernel_rfl) (by kernel_rfl) (by kernel_rfl) (by kernel_rfl) (by simp [Act.put]) hS.out ?_
      apply Exists.intro
      refine And.intro (fun w' hS' => ?_) ?_
      · clear hS'
        go_wp2
        first
          | exact ⟨trivial, rfl⟩
          | exact rfl
      refine pf_take (i := 9) 32 rfl rfl rfl (by kernel_rfl) (by kernel_rfl) (by kernel_rfl) (by kernel_rfl) (by kernel_rfl) (by simp [Act.put]) hS.out ?_
      apply Exists.intro
      refine And.intro (fun w' hS' => ?_) ?_
      · clear hS'
        go_wp2
        first
          | exact ⟨trivial, rfl⟩
          | exact rfl
      refine pf_take (i := 10) 33 rfl rfl rfl (by kernel_rfl) (by kernel_rfl) (by kernel_rfl) (by kernel_rfl) (by kernel_rfl) (by simp [Act.put]) hS.out ?_
      apply Exists.intro
      refine And.intro (fun w' hS' => ?_) ?_
      · clear hS'
        go_wp2
        first
          | exact ⟨trivial, rfl⟩
          | exact rfl
      refine pf_take (i := 11) 34 rfl rfl rfl (by kernel_rfl) (by kernel_rfl) (by kernel_rfl) (by kernel_rfl) (by kernel_rfl) (by simp [Act.put]) hS.out ?_
      apply Exists.intro
      refine And.intro (fun w' hS' => ?_) ?_
      · have hc := hS'.2.1
        clear hS'
        go_wp2
        first
          | exact ⟨trivial, rfl⟩
          | exact rfl
      refine pf_free (i := 13) 36 rfl rfl rfl (by kernel_rfl) (by kernel_rfl) (by kernel_rfl) rfl (by simp [Act.put]) (fun _ => hS.out) ?_
      apply Exists.intro
      refine And.intro (fun w' => ?_) ?_
      · go_wp2
        first
          | exact ⟨trivial, rfl⟩
          | exact rfl
      refine pf_free (i := 14) 37 rfl rfl rfl (by kernel_rfl) (by kernel_rfl) (by kernel_rfl) rfl (by simp [Act.put]) (fun _ => hS.out) ?_
      apply Exists.intro
      refine And.intro (fun w' => ?_) ?_
      · go_wp2
        first
          | exact ⟨trivial, rfl⟩
          | exact rfl
      refine pf_free (i := 15) 38 rfl rfl rfl (by kernel_rfl) (by kernel_rfl) (by kernel_rfl) rfl (by simp [Act.put]) (fun _ => hS.out) ?_
      apply Exists.intro
      refine And.intro (fun w' => ?_) ?_
      · go_wp2
        first
          | exact ⟨trivial, rfl⟩
          | exact rfl
      refine pf_free (i := 16) 39 rfl rfl rfl (by kernel_rfl) (by kernel_rfl) (by kernel_rfl) rfl (by simp [Act.put]) (fun _ => hS.out) ?_
      apply Exists.intro
      refine And.intro (fun w' => ?_) ?_
      · go_wp2
        first
          | exact ⟨trivial, rfl⟩
          | exact rfl
      refine pf_free (i := 17) 40 rfl rfl rfl (by kernel_rfl) (by kernel_rfl) (by kernel_rfl) rfl (by simp [Act.put]) (fun _ => hS.out) ?_
      apply Exists.intro
      refine And.intro (fun w' => ?_) ?_
      · go_wp2
        first
          | exact ⟨trivial, rfl⟩
          | exact rfl
      refine pf_take (i := 18) 41 rfl rfl rfl (by kernel_rfl) (by kernel_rfl) (by kernel_rfl) (by kernel_rfl) (by kernel_rfl) (by simp [Act.put]) hS.out ?_
      apply Exists.intro
      refine And.intro (fun w' hS' => ?_) ?_
      · have hc := hS'.2.2.1
        clear hS'
        go_wp2
        first
          | exact ⟨trivial, rfl⟩
          | exact rfl
      refine pf_free (i := 20) 43 rfl rfl rfl (by kernel_rfl) (by kernel_rfl) (by kernel_rfl) rfl (by simp [Act.put]) (fun _ => hS.out) ?_
      apply Exists.intro
      refine And.intro (fun w' => ?_) ?_
      · go_wp2
        first
          | exact ⟨trivial, rfl⟩
          | exact rfl
      refine pf_free (i := 23) 45 rfl rfl rfl (by kernel_rfl) (by kernel_rfl) (by kernel_rfl) rfl (by simp [Act.put]) (fun _ => hS.out) ?_
      apply Exists.intro
      refine And.intro (fun w' => ?_) ?_
      · go_wp2
        first
          | exact ⟨trivial, rfl⟩
          | exact rfl
      refine pf_heavy (i := 12) rfl (by kernel_rfl) ?_
      go_wp2_with fail
      refine CL1.out.mono ?_
      rintro e w8 ⟨v8, rfl, o8, b8⟩
      have B8 : Hid (Below wr.heap.size wr w8) := Lib.hid (BD.out.tr b8)
      have R8 := Lib.hid (RdU.of_own o8 (AV.out.mono HB.out.size))
      obtain ⟨a8, c8, rfl⟩ := R8.out.slice
      have hq : w8.cell? ⟨D, 0, none⟩ = some (.pointer (some ⟨S, 0, none⟩)) ∧ w8.cell? ⟨S, j, none⟩ = some (.slice a1 b1.length c1) ∧ w8.cell? ⟨D, 1 + j, none⟩ = some (.slice a2 b2.length c2) ∧ w8.cell? ⟨w.heap.size, 0, none⟩ = some (.pointer (some ⟨w.heap.size + 1, 0, none⟩)) := ⟨cell_kept hS.out.1 b8, cell_kept hS.out.2.1 b8, cell_kept hS.out.2.2.1 b8, cell_kept hS.out.2.2.2 b8⟩
      have CL2 := Lib.hid (clone_any w8 _ b2 (HQ.out.2.2.1.fresh b8) (by have := HQ.out.2.2.2; omega))
      clear hS o8 b8 CL1
      have hS := Lib.hid hq
      clear hq
      go_wp2
      refine And.intro hS.out ?_
      refine pf_heavy (i := 19) rfl (by kernel_rfl) ?_
      go_wp2_with fail
      refine CL2.out.mono ?_
      rintro e w9 ⟨v9, rfl, o9, b9⟩
      have B9 : Hid (Below wr.heap.size wr w9) := Lib.hid (B8.out.tr b9)
      have R9 := Lib.hid (RdU.of_own o9 (AV.out.mono (Nat.le_trans HB.out.size B8.out.size)))
      have R8' := Lib.hid (R8.out.fresh b9)
      obtain ⟨a9, c9, rfl⟩ := R9.out.slice
      have hq : w9.cell? ⟨D, 0, none⟩ = some (.pointer (some ⟨S, 0, none⟩)) ∧ w9.cell? ⟨S, j, none⟩ = some (.slice a1 b1.length c1) ∧ w9.cell? ⟨D, 1 + j, none⟩ = some (.slice a2 b2.length c2) ∧ w9.cell? ⟨w.heap.size, 0, none⟩ = some (.pointer (some ⟨w.heap.size + 1, 0, none⟩)) := ⟨cell_kept hS.out.1 b9, cell_kept hS.out.2.1 b9, cell_kept hS.out.2.2.1 b9, cell_kept hS.out.2.2.2 b9⟩
      clear hS o9 b9 CL2 R8 B8
      have hS := Lib.hid hq
      clear hq
      have D9 := Lib.hid (HR.out.fresh B9.out)
      go_wp2
      refine And.intro hS.out ?_
      refine pf_take (i := 21) 44 rfl rfl rfl (by kernel_rfl) (by kernel_rfl) (by kernel_rfl) (by kernel_rfl) (by kernel_rfl) (by simp [Act.put]) hS.out ?_
      apply Exists.intro
      refine And.intro (fun w' hS' => ?_) ?_
      · clear hS'
        go_wp2
        first
          | exact ⟨trivial, rfl⟩
          | exact rfl
      refine pf_last (i := 22) rfl (by kernel_rfl) (by kernel_rfl) ?_
      refine wpList_store_cell rfl 29 (.tmp 44) (.tmp 35) rfl (w.heap.size + 1) j 62 rfl _ (.slice a8 b1.length c8) rfl rfl D9.out.cs (by rw [D9.out.lv.1]; exact HJ.out.2) infoSl8 ?_
      intro x1 k1 o1
      have KT1 : Kt [62] w9 x1 := Kt.only o1 D9.out.cs.tag (by simp)
      have D10 : Hid (DkV x1 w.heap.size (w.heap.size + 1) (vs1.set j (.slice a8 b1.length c8)) ns1 (.slice a4 L c4) css { k with set := nowJ k.set (j + 1) }) := Lib.hid (by
        have h1 := D9.out.setLog k1 KT1 (R8'.out.kt KT1 (by decide))
        rw [nowJ_succ OK.out.sl HJ.out.2 HQ.out.1]
        exact h1)
      have R10 := Lib.hid (R9.out.kt KT1 (by decide))
      have B10 := Lib.hid (Below.only (HB.out.trans (B9.out.mono HB.out.size)) o1 (Nat.le_succ _))
      clear k1 o1 KT1
      go_wp2
      refine pf_last (i := 24) rfl (by kernel_rfl) (by kernel_rfl) ?_
      go_wp2
      refine pf_last (i := 25) rfl (by kernel_rfl) (by kernel_rfl) ?_
      refine wpList_store_cell rfl 29 (.tmp 46) (.tmp 42) rfl w.heap.size (1 + j) 65 rfl _ (.slice a9 b2.length c9) rfl rfl D10.out.cd (by rw [dkC_length D10.out.ln.1]; have := HJ.out.2; omega) infoSl8 ?_
      intro x2 k2 o2
      rw [Nat.add_comm 1 j, dkC_setNow D10.out.ln.1 HJ.out.2] at k2
      have KT2 : Kt [65] x1 x2 := Kt.only o2 D10.out.cd.tag (by simp)
      have D11 : Hid (DkV x2 w.heap.size (w.heap.size + 1) (vs1.set j (.slice a8 b1.length c8)) (ns1.set j (.slice a9 b2.length c9)) (.slice a4 L c4) css { k with set := nowJ k.set (j + 1) }) := Lib.hid (by
        have h1 := D10.out.nowLog k2 KT2 (R10.out.kt KT2 (by decide))
        have e : k.now.set j b2 = k.now := by
          apply List.ext_getElem?
          intro i
          rw [List.getElem?_set]
          split
          · rename_i hij
            subst hij
            split
            · exact HQ.out.2.1.symm
            · rename_i hlt
              rw [List.getElem?_eq_none (by omega)]
          · rfl
        simp only [e] at h1
        exact h1)
      have B11 := Lib.hid (Below.only B10.out o2 (Nat.le_refl _))
      clear k2 o2 KT2
      go_wp2
      refine pf_done (by kernel_rfl) ?_
      go_wp2
      go_roundw
      case rel => exact ⟨B11.out, j + 1, HJ.out.2, by go_num, _, _, D11.out⟩
      case measure => have := HJ.out.2; simp only [RowKit.intOf]; omega
    · have ij : ¬ ((j : Int) < 16) := by omega
      obtain rfl : j = 16 := by omega
      clear hj hjn
      go_wp2
      go_ret
      have DF := HR.out
      rw [nowJ_full OK.out.sl] at DF
      have OF : Own w.heap.size w wr w.heap.size (w.heap.size + 1) (.slice a4 L c4) k := ⟨⟨_, _, _, DF⟩, HB.out, Nat.le_refl _, Nat.le_succ _, OW4.out, Nat.le_refl _⟩
      exact ⟨rfl, _, OF⟩

end Go.Proofs.Ytbbbgpdhdlknjaa
