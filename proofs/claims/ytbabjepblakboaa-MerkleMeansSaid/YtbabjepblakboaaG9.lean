/- Texts Yw Yx Yy Yz Str Za, one behind the other. -/
import Derived.Test.YtbabjepblakboaaG8
import Derived.Test.YtbabjepblakboaaG4
import Derived.Test.YtbabjepblakboaaG5
import Derived.Shelf.RegionOpenPlain
import Derived.Deep.LoopGhost
import Derived.Lib.Walk
import Derived.Sort.WalkB12
import Derived.Lib.SlicesMore
import Derived.LaidEqlPtr
import Derived.Laws.Strings
/- Merkle: nodes of trees: tops: the walks. -/
namespace Go.Proofs.Ytbabjepblakboaa
set_option linter.unusedVariables false
set_option linter.unusedSimpArgs false
open Go.RowKit Go.Lib

set_option maxRecDepth 100000 in
set_option maxHeartbeats 4000000 in
theorem topNode_nil (w : World) (n : Nat) (hn : n ≤ 1099511627776) :
    Calls Try.prog 145 #[.int .i64 (n : Int), .pointer none] w fun e w' => ∃ g, e = .returned (.pointer (some ⟨g, 0, none⟩)) ∧ NodeAt w' (fun k => w.heap.size ≤ k) g (topB n []) (topT n []) [] ∧ Below w.heap.size w w' := by
  have CT := fun w0 v0 h0 => mtext_any w0 v0 [114, 111, 111, 116] [le n 8] h0 (by simp) (by simp) (by simp)
  obtain ⟨m, hm⟩ : ∃ m, m = (textB [114, 111, 111, 116] ([le n 8] : List Bs).flatten).length := ⟨_, rfl⟩
  obtain ⟨T, hT⟩ : ∃ T, T = textB [114, 111, 111, 116] ([le n 8] : List Bs).flatten := ⟨_, rfl⟩
  have hTT : Hid (T = topT n []) := Lib.hid (by rw [hT]; simp [topT])
  rw [← hm, ← hT] at CT
  have hnl : Hid (m = T.length) := Lib.hid (by rw [hm, hT])
  replace CT := Lib.hid CT
  have C1 := Lib.hid (fun w0 => top_any w0 n (.slice none 0 0) [] hn (Rd.nil _ _) (by simp))
  have C2 := Lib.hid (fun w0 => mnumber_any w0 n hn)
  obtain ⟨Z, hZ⟩ : ∃ Z, Z = topB n [] := ⟨_, rfl⟩
  rw [← hZ] at C1 ⊢
  have hZl : Hid (Z.length = 32) := Lib.hid (by rw [hZ]; exact topB_length _ _)
  clear hm hT hn hZ
  go_enter Try.func145, Try.ntmps145
  go_wp2_with fail
  refine (C1.out _).mono ?_
  rintro e w1 ⟨rfl, b1⟩
  have BB := Lib.hid b1
  clear b1
  go_wp2_with fail
  refine (C2.out _).mono ?_
  rintro e w2 ⟨rfl, r2, b2⟩
  have R2 : Rd w2 1 (.slice (some ⟨w1.heap.size, 0, none⟩) 8 8) (le n 8).length (bvs (le n 8)) := by have := r2.rd 0 8 8 (by simp) (by omega) (by decide); simpa [List.take_of_length_le (show (le n 8).length ≤ 8 by simp)] using this
  obtain ⟨w3, h3, p3, b3, s3⟩ := alloc_one w2 42 _ (le n 8) R2
  have P3 := Lib.hid p3
  have H3 := Lib.hid h3
  replace BB := Lib.hid ((BB.out.tr b2).tr b3)
  clear p3 h3 b2 b3 r2 s3 R2
  go_wp2_with fail
  change Calls _ _ _ (w2.alloc (.cells #[.slice (some ⟨w1.heap.size, 0, none⟩) 8 8] 42)) _
  rw [← H3.out]
  refine (CT.out _ _ P3.out).mono ?_
  rintro e w4 ⟨v, rfl, r4, b4, ov⟩
  obtain ⟨ax, cx, rfl⟩ := r4.slice
  have R4 := Lib.hid r4
  have OV : Hid (∀ k, (Value.slice ax m cx).ownBlock = some k → w.heap.size ≤ k) := Lib.hid (fun k hk => Nat.le_trans BB.out.size (ov k hk))
  clear ov
  replace BB := Lib.hid (BB.out.tr b4)
  clear r4 b4 H3 P3
  go_wp2_with (with_reducible refine stopAt 13 ?_)
  refine Stop.go ?_
  refine wpList_buildP rfl _ _ rfl #[(0, .agg (bvs Z).toArray), (1, .slice ax m cx)] _ (by kernel_rfl) (build_node2 w4 Z hZl.out ax m cx) ?_
  go_wp2
  obtain ⟨wn, h, k, b, s⟩ := alloc_cb w4 166 (bvs Z ++ [Value.slice ax m cx, Value.slice none 0 0])
  change bodyPost _ _ _ _ _ (w4.alloc (.cells (bvs Z ++ [Value.slice ax m cx, Value.slice none 0 0]).toArray 166))
  rw [← h]
  obtain ⟨g, hg⟩ : ∃ g, g = w4.heap.size := ⟨_, rfl⟩
  rw [← hg] at k ⊢
  have NN : Hid (NodeAt wn (fun k => w.heap.size ≤ k) g Z (topT n []) []) := Lib.hid ⟨hZl.out, by rw [hg]; exact BB.out.size, _, _, k, by rw [← hTT.out, ← hnl.out]; exact R4.out.fresh b, .inl ⟨rfl, rfl⟩, OV.out, fun k hk => by simp [Value.ownBlock] at hk⟩
  have BN := Lib.hid (BB.out.tr b)
  clear h k b s hg
  go_ret
  exact ⟨g, rfl, NN.out, BN.out⟩

/-- One head. -/
theorem headDrew {w : World} {g : Nat} {h : Bs} (hh : HeadAt w g h) : HeadAt w.drew g h := hh.fresh (Below.refl _ _).drew

set_option maxRecDepth 100000 in
set_option maxHeartbeats 8000000 in
theorem topNode_any (w : World) (n : Nat) (ga : Nat) (ha : Bs) (hha : HeadAt w ga ha) (hn : n ≤ 1099511627776) :
    Calls Try.prog 145 #[.int .i64 (n : Int), .pointer (some ⟨ga, 0, none⟩)] w fun e w' => ∃ g, e = .returned (.pointer (some ⟨g, 0, none⟩)) ∧ NodeAt w' (fun k => w.heap.size ≤ k) g (topB n ha) (topT n ha) [ga] ∧ Below w.heap.size w w' := by
  have HX := Lib.hid (And.intro hha.1 hn)
  have CT := fun w0 v0 h0 => mtext_any w0 v0 [114, 111, 111, 116] [le n 8, ha] h0 (by simp) (by simp) (by simp; have := hha.1; omega)
  obtain ⟨m, hm⟩ : ∃ m, m = (textB [114, 111, 111, 116] ([le n 8, ha] : List Bs).flatten).length := ⟨_, rfl⟩
  obtain ⟨T, hT⟩ : ∃ T, T = textB [114, 111, 111, 116] ([le n 8, ha] : List Bs).flatten := ⟨_, rfl⟩
  have hTT : Hid (T = topT n ha) := Lib.hid (by rw [hT]; simp [topT])
  rw [← hm, ← hT] at CT
  have hnl : Hid (m = T.length) := Lib.hid (by rw [hm, hT])
  replace CT := Lib.hid CT
  have SS : Hid (HeadAt w.drew ga ha) := Lib.hid (headDrew hha)
  clear hha hn hm hT
  go_enter Try.func145, Try.ntmps145
  go_wp2_with fail
  have BB : Hid (Below w.heap.size w w.drew) := Lib.hid (Below.refl _ w).drew
  refine ord_share6 (F := fun (wz : World) (GN GA : Nat) (ax : Option Addr) (cx : Nat) (G2 : Nat) => HeadAt wz ga ha ∧ Rd wz 1 (.slice ax m cx) m (bvs T) ∧ (∀ k, (Value.slice ax m cx).ownBlock = some k → w.heap.size ≤ k) ∧ w.heap.size ≤ G2 ∧ CB wz 163 G2 [.pointer (some ⟨ga, 0, none⟩)] ∧ Below w.heap.size w wz) ?pshare ?tree ?rest
  case tree =>
    intro HREST
    have HREST := Lib.hid HREST
    refine pl_start 19 rfl (fun w' => HeadAt w' ga ha) (by kernel_rfl) ?_
    obtain ⟨w2, hw2⟩ : ∃ w2, w2 = w.drew := ⟨_, rfl⟩
    rw [← hw2] at SS BB ⊢
    clear hw2
    refine pl_take (i := 0) 15 rfl rfl rfl (by kernel_rfl) (by kernel_rfl) (by kernel_rfl) (by simp [Act.put]) SS.out ?_
    apply Exists.intro
    refine And.intro (fun w' hS' => ?_) ?_
    · go_wp2
      exact ⟨trivial, rfl⟩
    refine pl_take (i := 1) 16 rfl rfl rfl (by kernel_rfl) (by kernel_rfl) (by kernel_rfl) (by simp [Act.put]) SS.out ?_
    apply Exists.intro
    refine And.intro (fun w' hS' => ?_) ?_
    · go_wp2
      exact ⟨trivial, rfl⟩
    refine pl_take (i := 2) 17 rfl rfl rfl (by kernel_rfl) (by kernel_rfl) (by kernel_rfl) (by simp [Act.put]) SS.out ?_
    apply Exists.intro
    refine And.intro (fun w' hS' => ?_) ?_
    · go_wp2
      exact ⟨trivial, rfl⟩
    refine pl_take (i := 3) 18 rfl rfl rfl (by kernel_rfl) (by kernel_rfl) (by kernel_rfl) (by simp [Act.put]) SS.out ?_
    apply Exists.intro
    refine And.intro (fun w' hS' => ?_) ?_
    · go_wp2
      exact ⟨trivial, rfl⟩
    refine pl_take (i := 4) 19 rfl rfl rfl (by kernel_rfl) (by kernel_rfl) (by kernel_rfl) (by simp [Act.put]) SS.out ?_
    apply Exists.intro
    refine And.intro (fun w' hS' => ?_) ?_
    · go_wp2
      exact ⟨trivial, rfl⟩
    refine pl_take (i := 6) 21 rfl rfl rfl (by kernel_rfl) (by kernel_rfl) (by kernel_rfl) (by simp [Act.put]) SS.out ?_
    apply Exists.intro
    refine And.intro (fun w' hS' => ?_) ?_
    · go_wp2
      exact ⟨trivial, rfl⟩
    refine pl_take (i := 8) 23 rfl rfl rfl (by kernel_rfl) (by kernel_rfl) (by kernel_rfl) (by simp [Act.put]) SS.out ?_
    apply Exists.intro
    refine And.intro (fun w' hS' => ?_) ?_
    · go_wp2
      exact ⟨trivial, rfl⟩
    refine pl_take (i := 9) 24 rfl rfl rfl (by kernel_rfl) (by kernel_rfl) (by kernel_rfl) (by simp [Act.put]) SS.out ?_
    apply Exists.intro
    refine And.intro (fun w' hS' => ?_) ?_
    · go_wp2
      exact ⟨trivial, rfl⟩
    refine pl_take (i := 10) 25 rfl rfl rfl (by kernel_rfl) (by kernel_rfl) (by kernel_rfl) (by simp [Act.put]) SS.out ?_
    apply Exists.intro
    refine And.intro (fun w' hS' => ?_) ?_
    · go_wp2
      exact ⟨trivial, rfl⟩
    refine pl_take (i := 11) 26 rfl rfl rfl (by kernel_rfl) (by kernel_rfl) (by kernel_rfl) (by simp [Act.put]) SS.out ?_
    apply Exists.intro
    refine And.intro (fun w' hS' => ?_) ?_
    · go_wp2
      exact ⟨trivial, rfl⟩
    refine pl_take (i := 14) 29 rfl rfl rfl (by kernel_rfl) (by kernel_rfl) (by kernel_rfl) (by simp [Act.put]) SS.out ?_
    apply Exists.intro
    refine And.intro (fun w' hS' => ?_) ?_
    · go_wp2
      exact ⟨trivial, rfl⟩
    refine ord_two (i := 5) (j := 15) rfl rfl (by kernel_rfl) ?_ ?_
    · skip
      go_wp2_with fail
      refine (top_any w2 n _ ha HX.out.2 SS.out.rd (by rw [HX.out.1]; decide)).mono ?_
      rintro e u1 ⟨rfl, b⟩
      replace SS := Lib.hid (SS.out.fresh b)
      replace BB := Lib.hid (BB.out.tr b)
      clear b
      go_wp2
      refine And.intro SS.out ?_
      refine ord_two (i := 7) (j := 15) rfl rfl (by kernel_rfl) ?_ ?_
      · skip
        go_wp2_with fail
        refine (mnumber_any u1 n HX.out.2).mono ?_
        rintro e u2 ⟨rfl, r, b⟩
        obtain ⟨GN, hGN⟩ : ∃ G, G = u1.heap.size := ⟨_, rfl⟩
        rw [← hGN] at r ⊢
        replace SS := Lib.hid (SS.out.fresh b)
        replace BB := Lib.hid (BB.out.tr b)
        have RN : Hid (Rd u2 1 (.slice (some ⟨GN, 0, none⟩) 8 8) (le n 8).length (bvs (le n 8))) := Lib.hid (by have := r.rd 0 8 8 (by simp) (by omega) (by decide); simpa [List.take_of_length_le (show (le n 8).length ≤ 8 by simp)] using this)
        clear r hGN
        clear b
        go_wp2
        refine And.intro SS.out ?_
        refine ord_two (i := 12) (j := 15) rfl rfl (by kernel_rfl) ?_ ?_
        · skip
          go_wp2
          have SSo := SS
          have RNo := RN
          obtain ⟨u3, h, k, b, s⟩ := alloc_cb u2 42 [.slice (some ⟨GN, 0, none⟩) 8 8, .slice (some ⟨ga, 0, none⟩) 32 32]
          have q := SS.out.fresh b
          refine And.intro (by rw [h] at q; exact q) ?_
          change wpAnyH _ _ _ _ _ _ _ _ (u2.alloc (.cells [.slice (some ⟨GN, 0, none⟩) 8 8, .slice (some ⟨ga, 0, none⟩) 32 32].toArray 42))
          rw [← h]
          have LX : w.heap.size ≤ u2.heap.size := (BB.out).size
          replace SS := Lib.hid (SS.out.fresh b)
          replace BB := Lib.hid (BB.out.tr b)
          replace RN := Lib.hid (RN.out.fresh b)
          obtain ⟨GA, hG⟩ : ∃ G, G = u2.heap.size := ⟨_, rfl⟩
          rw [← hG] at k ⊢
          have LGA : Hid (w.heap.size ≤ GA) := Lib.hid (by rw [hG]; exact LX)
          have KGA := Lib.hid k
          have PP : Hid (Pts u3 (.slice (some ⟨GA, 0, none⟩) 2 2) [le n 8, ha]) := Lib.hid (by have q := Pts.two u2 42 (.slice (some ⟨GN, 0, none⟩) 8 8) (.slice (some ⟨ga, 0, none⟩) 32 32) (le n 8) ha RNo.out SSo.out.rd; rw [← hG] at q; rw [h]; exact q)
          clear h k b s q hG LX SSo
          refine ord_two (i := 13) (j := 15) rfl rfl (by kernel_rfl) ?_ ?_
          · skip
            go_wp2_with fail
            refine (CT.out u3 _ PP.out).mono ?_
            rintro e u4 ⟨v, rfl, r, b, ov⟩
            obtain ⟨ax, cx, rfl⟩ := r.slice
            have OV : Hid (∀ k, (Value.slice ax m cx).ownBlock = some k → w.heap.size ≤ k) := Lib.hid (fun k hk => Nat.le_trans BB.out.size (ov k hk))
            replace SS := Lib.hid (SS.out.fresh b)
            replace BB := Lib.hid (BB.out.tr b)
            replace RN := Lib.hid (RN.out.fresh b)
            replace KGA := Lib.hid (KGA.out.fresh b)
            replace PP := Lib.hid (PP.out.fresh b)
            have RR : Hid (Rd u4 1 (.slice ax m cx) m (bvs T)) := Lib.hid r
            clear r ov
            clear b
            go_wp2
            refine And.intro SS.out ?_
            refine pl_heavy (i := 15) rfl (by kernel_rfl) ?_
            go_wp2
            have SSo := SS
            obtain ⟨u5, h, k, b, s⟩ := alloc_cb u4 163 [.pointer (some ⟨ga, 0, none⟩)]
            have q := SS.out.fresh b
            refine And.intro (by rw [h] at q; exact q) ?_
            change wpAnyH _ _ _ _ _ _ _ _ (u4.alloc (.cells [.pointer (some ⟨ga, 0, none⟩)].toArray 163))
            rw [← h]
            have LX : w.heap.size ≤ u4.heap.size := (BB.out).size
            replace SS := Lib.hid (SS.out.fresh b)
            replace BB := Lib.hid (BB.out.tr b)
            replace RN := Lib.hid (RN.out.fresh b)
            replace KGA := Lib.hid (KGA.out.fresh b)
            replace PP := Lib.hid (PP.out.fresh b)
            replace RR := Lib.hid (RR.out.fresh b)
            obtain ⟨GB, hG⟩ : ∃ G, G = u4.heap.size := ⟨_, rfl⟩
            rw [← hG] at k ⊢
            have LGB : Hid (w.heap.size ≤ GB) := Lib.hid (by rw [hG]; exact LX)
            have KGB := Lib.hid k
            clear h k b s q hG LX SSo
            exact HREST.out u5 GN GA ax cx GB ⟨SS.out, RR.out, OV.out, LGB.out, KGB.out, BB.out⟩
          · skip
            go_wp2
            have SSo := SS
            obtain ⟨u6, h, k, b, s⟩ := alloc_cb u3 163 [.pointer (some ⟨ga, 0, none⟩)]
            have q := SS.out.fresh b
            refine And.intro (by rw [h] at q; exact q) ?_
            change wpAnyH _ _ _ _ _ _ _ _ (u3.alloc (.cells [.pointer (some ⟨ga, 0, none⟩)].toArray 163))
            rw [← h]
            have LX : w.heap.size ≤ u3.heap.size := (BB.out).size
            replace SS := Lib.hid (SS.out.fresh b)
            replace BB := Lib.hid (BB.out.tr b)
            replace RN := Lib.hid (RN.out.fresh b)
            replace KGA := Lib.hid (KGA.out.fresh b)
            replace PP := Lib.hid (PP.out.fresh b)
            obtain ⟨GB, hG⟩ : ∃ G, G = u3.heap.size := ⟨_, rfl⟩
            rw [← hG] at k ⊢
            have LGB : Hid (w.heap.size ≤ GB) := Lib.hid (by rw [hG]; exact LX)
            have KGB := Lib.hid k
            clear h k b s q hG LX SSo
            refine pl_heavy (i := 13) rfl (by kernel_rfl) ?_
            go_wp2_with fail
            refine (CT.out u6 _ PP.out).mono ?_
            rintro e u7 ⟨v, rfl, r, b, ov⟩
            obtain ⟨ax, cx, rfl⟩ := r.slice
            have OV : Hid (∀ k, (Value.slice ax m cx).ownBlock = some k → w.heap.size ≤ k) := Lib.hid (fun k hk => Nat.le_trans BB.out.size (ov k hk))
            replace SS := Lib.hid (SS.out.fresh b)
            replace BB := Lib.hid (BB.out.tr b)
            replace RN := Lib.hid (RN.out.fresh b)
            replace KGA := Lib.hid (KGA.out.fresh b)
            replace PP := Lib.hid (PP.out.fresh b)
            replace KGB := Lib.hid (KGB.out.fresh b)
            have RR : Hid (Rd u7 1 (.slice ax m cx) m (bvs T)) := Lib.hid r
            clear r ov
            clear b
            go_wp2
            refine And.intro SS.out ?_
            exact HREST.out u7 GN GA ax cx GB ⟨SS.out, RR.out, OV.out, LGB.out, KGB.out, BB.out⟩
        · skip
          go_wp2
          have SSo := SS
          obtain ⟨u8, h, k, b, s⟩ := alloc_cb u2 163 [.pointer (some ⟨ga, 0, none⟩)]
          have q := SS.out.fresh b
          refine And.intro (by rw [h] at q; exact q) ?_
          change wpAnyH _ _ _ _ _ _ _ _ (u2.alloc (.cells [.pointer (some ⟨ga, 0, none⟩)].toArray 163))
          rw [← h]
          have LX : w.heap.size ≤ u2.heap.size := (BB.out).size
          replace SS := Lib.hid (SS.out.fresh b)
          replace BB := Lib.hid (BB.out.tr b)
          replace RN := Lib.hid (RN.out.fresh b)
          obtain ⟨GB, hG⟩ : ∃ G, G = u2.heap.size := ⟨_, rfl⟩
          rw [← hG] at k ⊢
          have LGB : Hid (w.heap.size ≤ GB) := Lib.hid (by rw [hG]; exact LX)
          have KGB := Lib.hid k
          clear h k b s q hG LX SSo
          refine pl_heavy (i := 12) rfl (by kernel_rfl) ?_
          go_wp2
          have SSo := SS
          have RNo := RN
          obtain ⟨u9, h, k, b, s⟩ := alloc_cb u8 42 [.slice (some ⟨GN, 0, none⟩) 8 8, .slice (some ⟨ga, 0, none⟩) 32 32]
          have q := SS.out.fresh b
          refine And.intro (by rw [h] at q; exact q) ?_
          change wpAnyH _ _ _ _ _ _ _ _ (u8.alloc (.cells [.slice (some ⟨GN, 0, none⟩) 8 8, .slice (some ⟨ga, 0, none⟩) 32 32].toArray 42))
          rw [← h]
          have LX : w.heap.size ≤ u8.heap.size := (BB.out).size
          replace SS := Lib.hid (SS.out.fresh b)
          replace BB := Lib.hid (BB.out.tr b)
          replace RN := Lib.hid (RN.out.fresh b)
          replace KGB := Lib.hid (KGB.out.fresh b)
          obtain ⟨GA, hG⟩ : ∃ G, G = u8.heap.size := ⟨_, rfl⟩
          rw [← hG] at k ⊢
          have LGA : Hid (w.heap.size ≤ GA) := Lib.hid (by rw [hG]; exact LX)
          have KGA := Lib.hid k
          have PP : Hid (Pts u9 (.slice (some ⟨GA, 0, none⟩) 2 2) [le n 8, ha]) := Lib.hid (by have q := Pts.two u8 42 (.slice (some ⟨GN, 0, none⟩) 8 8) (.slice (some ⟨ga, 0, none⟩) 32 32) (le n 8) ha RNo.out SSo.out.rd; rw [← hG] at q; rw [h]; exact q)
          clear h k b s q hG LX SSo
          refine pl_heavy (i := 13) rfl (by kernel_rfl) ?_
          go_wp2_with fail
          refine (CT.out u9 _ PP.out).mono ?_
          rintro e u10 ⟨v, rfl, r, b, ov⟩
          obtain ⟨ax, cx, rfl⟩ := r.slice
          have OV : Hid (∀ k, (Value.slice ax m cx).ownBlock = some k → w.heap.size ≤ k) := Lib.hid (fun k hk => Nat.le_trans BB.out.size (ov k hk))
          replace SS := Lib.hid (SS.out.fresh b)
          replace BB := Lib.hid (BB.out.tr b)
          replace RN := Lib.hid (RN.out.fresh b)
          replace KGB := Lib.hid (KGB.out.fresh b)
          replace KGA := Lib.hid (KGA.out.fresh b)
          replace PP := Lib.hid (PP.out.fresh b)
          have RR : Hid (Rd u10 1 (.slice ax m cx) m (bvs T)) := Lib.hid r
          clear r ov
          clear b
          go_wp2
          refine And.intro SS.out ?_
          exact HREST.out u10 GN GA ax cx GB ⟨SS.out, RR.out, OV.out, LGB.out, KGB.out, BB.out⟩
      · skip
        go_wp2
        have SSo := SS
        obtain ⟨u11, h, k, b, s⟩ := alloc_cb u1 163 [.pointer (some ⟨ga, 0, none⟩)]
        have q := SS.out.fresh b
        refine And.intro (by rw [h] at q; exact q) ?_
        change wpAnyH _ _ _ _ _ _ _ _ (u1.alloc (.cells [.pointer (some ⟨ga, 0, none⟩)].toArray 163))
        rw [← h]
        have LX : w.heap.size ≤ u1.heap.size := (BB.out).size
        replace SS := Lib.hid (SS.out.fresh b)
        replace BB := Lib.hid (BB.out.tr b)
        obtain ⟨GB, hG⟩ : ∃ G, G = u1.heap.size := ⟨_, rfl⟩
        rw [← hG] at k ⊢
        have LGB : Hid (w.heap.size ≤ GB) := Lib.hid (by rw [hG]; exact LX)
        have KGB := Lib.hid k
        clear h k b s q hG LX SSo
        refine pl_heavy (i := 7) rfl (by kernel_rfl) ?_
        go_wp2_with fail
        refine (mnumber_any u11 n HX.out.2).mono ?_
        rintro e u12 ⟨rfl, r, b⟩
        obtain ⟨GN, hGN⟩ : ∃ G, G = u11.heap.size := ⟨_, rfl⟩
        rw [← hGN] at r ⊢
        replace SS := Lib.hid (SS.out.fresh b)
        replace BB := Lib.hid (BB.out.tr b)
        replace KGB := Lib.hid (KGB.out.fresh b)
        have RN : Hid (Rd u12 1 (.slice (some ⟨GN, 0, none⟩) 8 8) (le n 8).length (bvs (le n 8))) := Lib.hid (by have := r.rd 0 8 8 (by simp) (by omega) (by decide); simpa [List.take_of_length_le (show (le n 8).length ≤ 8 by simp)] using this)
        clear r hGN
        clear b
        go_wp2
        refine And.intro SS.out ?_
        refine pl_heavy (i := 12) rfl (by kernel_rfl) ?_
        go_wp2
        have SSo := SS
        have RNo := RN
        obtain ⟨u13, h, k, b, s⟩ := alloc_cb u12 42 [.slice (some ⟨GN, 0, none⟩) 8 8, .slice (some ⟨ga, 0, none⟩) 32 32]
        have q := SS.out.fresh b
        refine And.intro (by rw [h] at q; exact q) ?_
        change wpAnyH _ _ _ _ _ _ _ _ (u12.alloc (.cells [.slice (some ⟨GN, 0, none⟩) 8 8, .slice (some ⟨ga, 0, none⟩) 32 32].toArray 42))
        rw [← h]
        have LX : w.heap.size ≤ u12.heap.size := (BB.out).size
        replace SS := Lib.hid (SS.out.fresh b)
        replace BB := Lib.hid (BB.out.tr b)
        replace KGB := Lib.hid (KGB.out.fresh b)
        replace RN := Lib.hid (RN.out.fresh b)
        obtain ⟨GA, hG⟩ : ∃ G, G = u12.heap.size := ⟨_, rfl⟩
        rw [← hG] at k ⊢
        have LGA : Hid (w.heap.size ≤ GA) := Lib.hid (by rw [hG]; exact LX)
        have KGA := Lib.hid k
        have PP : Hid (Pts u13 (.slice (some ⟨GA, 0, none⟩) 2 2) [le n 8, ha]) := Lib.hid (by have q := Pts.two u12 42 (.slice (some ⟨GN, 0, none⟩) 8 8) (.slice (some ⟨ga, 0, none⟩) 32 32) (le n 8) ha RNo.out SSo.out.rd; rw [← hG] at q; rw [h]; exact q)
        clear h k b s q hG LX SSo
        refine pl_heavy (i := 13) rfl (by kernel_rfl) ?_
        go_wp2_with fail
        refine (CT.out u13 _ PP.out).mono ?_
        rintro e u14 ⟨v, rfl, r, b, ov⟩
        obtain ⟨ax, cx, rfl⟩ := r.slice
        have OV : Hid (∀ k, (Value.slice ax m cx).ownBlock = some k → w.heap.size ≤ k) := Lib.hid (fun k hk => Nat.le_trans BB.out.size (ov k hk))
        replace SS := Lib.hid (SS.out.fresh b)
        replace BB := Lib.hid (BB.out.tr b)
        replace KGB := Lib.hid (KGB.out.fresh b)
        replace RN := Lib.hid (RN.out.fresh b)
        replace KGA := Lib.hid (KGA.out.fresh b)
        replace PP := Lib.hid (PP.out.fresh b)
        have RR : Hid (Rd u14 1 (.slice ax m cx) m (bvs T)) := Lib.hid r
        clear r ov
        clear b
        go_wp2
        refine And.intro SS.out ?_
        exact HREST.out u14 GN GA ax cx GB ⟨SS.out, RR.out, OV.out, LGB.out, KGB.out, BB.out⟩
    · skip
      go_wp2
      have SSo := SS
      obtain ⟨u15, h, k, b, s⟩ := alloc_cb w2 163 [.pointer (some ⟨ga, 0, none⟩)]
      have q := SS.out.fresh b
      refine And.intro (by rw [h] at q; exact q) ?_
      change wpAnyH _ _ _ _ _ _ _ _ (w2.alloc (.cells [.pointer (some ⟨ga, 0, none⟩)].toArray 163))
      rw [← h]
      have LX : w.heap.size ≤ w2.heap.size := (BB.out).size
      replace SS := Lib.hid (SS.out.fresh b)
      replace BB := Lib.hid (BB.out.tr b)
      obtain ⟨GB, hG⟩ : ∃ G, G = w2.heap.size := ⟨_, rfl⟩
      rw [← hG] at k ⊢
      have LGB : Hid (w.heap.size ≤ GB) := Lib.hid (by rw [hG]; exact LX)
      have KGB := Lib.hid k
      clear h k b s q hG LX SSo
      refine pl_heavy (i := 5) rfl (by kernel_rfl) ?_
      go_wp2_with fail
      refine (top_any u15 n _ ha HX.out.2 SS.out.rd (by rw [HX.out.1]; decide)).mono ?_
      rintro e u16 ⟨rfl, b⟩
      replace SS := Lib.hid (SS.out.fresh b)
      replace BB := Lib.hid (BB.out.tr b)
      replace KGB := Lib.hid (KGB.out.fresh b)
      clear b
      go_wp2
      refine And.intro SS.out ?_
      refine pl_heavy (i := 7) rfl (by kernel_rfl) ?_
      go_wp2_with fail
      refine (mnumber_any u16 n HX.out.2).mono ?_
      rintro e u17 ⟨rfl, r, b⟩
      obtain ⟨GN, hGN⟩ : ∃ G, G = u16.heap.size := ⟨_, rfl⟩
      rw [← hGN] at r ⊢
      replace SS := Lib.hid (SS.out.fresh b)
      replace BB := Lib.hid (BB.out.tr b)
      replace KGB := Lib.hid (KGB.out.fresh b)
      have RN : Hid (Rd u17 1 (.slice (some ⟨GN, 0, none⟩) 8 8) (le n 8).length (bvs (le n 8))) := Lib.hid (by have := r.rd 0 8 8 (by simp) (by omega) (by decide); simpa [List.take_of_length_le (show (le n 8).length ≤ 8 by simp)] using this)
      clear r hGN
      clear b
      go_wp2
      refine And.intro SS.out ?_
      refine pl_heavy (i := 12) rfl (by kernel_rfl) ?_
      go_wp2
      have SSo := SS
      have RNo := RN
      obtain ⟨u18, h, k, b, s⟩ := alloc_cb u17 42 [.slice (some ⟨GN, 0, none⟩) 8 8, .slice (some ⟨ga, 0, none⟩) 32 32]
      have q := SS.out.fresh b
      refine And.intro (by rw [h] at q; exact q) ?_
      change wpAnyH _ _ _ _ _ _ _ _ (u17.alloc (.cells [.slice (some ⟨GN, 0, none⟩) 8 8, .slice (some ⟨ga, 0, none⟩) 32 32].toArray 42))
      rw [← h]
      have LX : w.heap.size ≤ u17.heap.size := (BB.out).size
      replace SS := Lib.hid (SS.out.fresh b)
      replace BB := Lib.hid (BB.out.tr b)
      replace KGB := Lib.hid (KGB.out.fresh b)
      replace RN := Lib.hid (RN.out.fresh b)
      obtain ⟨GA, hG⟩ : ∃ G, G = u17.heap.size := ⟨_, rfl⟩
      rw [← hG] at k ⊢
      have LGA : Hid (w.heap.size ≤ GA) := Lib.hid (by rw [hG]; exact LX)
      have KGA := Lib.hid k
      have PP : Hid (Pts u18 (.slice (some ⟨GA, 0, none⟩) 2 2) [le n 8, ha]) := Lib.hid (by have q := Pts.two u17 42 (.slice (some ⟨GN, 0, none⟩) 8 8) (.slice (some ⟨ga, 0, none⟩) 32 32) (le n 8) ha RNo.out SSo.out.rd; rw [← hG] at q; rw [h]; exact q)
      clear h k b s q hG LX SSo
      refine pl_heavy (i := 13) rfl (by kernel_rfl) ?_
      go_wp2_with fail
      refine (CT.out u18 _ PP.out).mono ?_
      rintro e u19 ⟨v, rfl, r, b, ov⟩
      obtain ⟨ax, cx, rfl⟩ := r.slice
      have OV : Hid (∀ k, (Value.slice ax m cx).ownBlock = some k → w.heap.size ≤ k) := Lib.hid (fun k hk => Nat.le_trans BB.out.size (ov k hk))
      replace SS := Lib.hid (SS.out.fresh b)
      replace BB := Lib.hid (BB.out.tr b)
      replace KGB := Lib.hid (KGB.out.fresh b)
      replace RN := Lib.hid (RN.out.fresh b)
      replace KGA := Lib.hid (KGA.out.fresh b)
      replace PP := Lib.hid (PP.out.fresh b)
      have RR : Hid (Rd u19 1 (.slice ax m cx) m (bvs T)) := Lib.hid r
      clear r ov
      clear b
      go_wp2
      refine And.intro SS.out ?_
      exact HREST.out u19 GN GA ax cx GB ⟨SS.out, RR.out, OV.out, LGB.out, KGB.out, BB.out⟩
  case rest =>
    rintro wz GN GA ax cx G2 ⟨SZ, RZ, OZ, LZ, KZ, BZ⟩
    have OZ' := Lib.hid OZ
    have LZ' := Lib.hid LZ
    clear OZ LZ
    have SZ' := Lib.hid SZ
    have RZ' := Lib.hid RZ
    have KZ' := Lib.hid KZ
    have BZ' := Lib.hid BZ
    clear SZ RZ BZ KZ SS BB
    refine pl_heavy (i := 16) rfl (by kernel_rfl) ?_
    refine wpList_buildP rfl _ _ rfl #[(0, .agg (bvs (topB n ha)).toArray), (1, .slice ax m cx), (2, .slice (some ⟨G2, 0, none⟩) 1 1)] _ (by kernel_rfl) (build_node3 wz (topB n ha) (topB_length _ _) ax (some ⟨G2, 0, none⟩) m cx 1 1) ?_
    go_wp2
    refine And.intro SZ'.out ?_
    refine pl_heavy (i := 17) rfl (by kernel_rfl) ?_
    go_wp2
    obtain ⟨wn, h, k, b, s⟩ := alloc_cb wz 166 (bvs (topB n ha) ++ [Value.slice ax m cx, Value.slice (some ⟨G2, 0, none⟩) 1 1])
    have q := SZ'.out.fresh b
    refine And.intro (by rw [h] at q; exact q) ?_
    change wpAnyH _ _ _ _ _ _ _ _ (wz.alloc (.cells (bvs (topB n ha) ++ [Value.slice ax m cx, Value.slice (some ⟨G2, 0, none⟩) 1 1]).toArray 166))
    rw [← h]
    obtain ⟨g, hg⟩ : ∃ g, g = wz.heap.size := ⟨_, rfl⟩
    rw [← hg] at k ⊢
    have NN : Hid (NodeAt wn (fun k => w.heap.size ≤ k) g (topB n ha) (topT n ha) [ga]) := Lib.hid ⟨topB_length _ _, by rw [hg]; exact BZ'.out.size, _, _, k, by rw [← hTT.out, ← hnl.out]; exact RZ'.out.fresh b, .inr ⟨G2, rfl, KZ'.out.fresh b⟩, OZ'.out, fun k hk => by simp [Value.ownBlock] at hk; have := LZ'.out; omega⟩
    have SN := Lib.hid q
    have BN := Lib.hid (BZ'.out.tr b)
    clear h k b s q hg
    refine pl_heavy (i := 18) rfl (by kernel_rfl) ?_
    go_wp2
    refine And.intro SN.out ?_
    refine pl_done (by kernel_rfl) ?_
    go_wp2
    go_ret
    exact ⟨g, rfl, NN.out, BN.out⟩

end Go.Proofs.Ytbabjepblakboaa

/- Merkle: the whole tree: the walk. -/
namespace Go.Proofs.Ytbabjepblakboaa
set_option linter.unusedVariables false
set_option linter.unusedSimpArgs false
open Go.RowKit Go.Lib

/-- A pointer to a block. -/
def pv (g : Nat) : Value := .pointer (some ⟨g, 0, none⟩)
def pvs (l : List Nat) : List Value := l.map pv
@[simp] theorem pvs_length (l : List Nat) : (pvs l).length = l.length := by simp [pvs]
theorem pvs_one (l : List Nat) : ∀ u ∈ pvs l, u.oneCell' = true := by
  intro u hu
  simp only [pvs, List.mem_map] at hu
  obtain ⟨x, _, rfl⟩ := hu
  rfl
theorem pvs_append (a b : List Nat) : pvs (a ++ b) = pvs a ++ pvs b := by simp [pvs]
theorem pvs_get {l : List Nat} {i g : Nat} (h : l[i]? = some g) : (pvs l)[i]? = some (pv g) := by simp [pvs, h]

/-- A tree in memory; its blocks are such as F says. -/
def TrAt (w : World) (F : Nat → Prop) : Tr → Nat → Prop
  | .leaf x, g => NodeAt w F g (leafB x) (leafT x) []
  | .knot a b, g => ∃ ga gb, NodeAt w F g (knotB a.hash b.hash) (knotT a.hash b.hash) [ga, gb] ∧ TrAt w F a ga ∧ TrAt w F b gb

theorem TrAt.fresh {w w' : World} {F : Nat → Prop} {t : Tr} {g : Nat} (h : TrAt w F t g) (hb : Below w.heap.size w w') : TrAt w' F t g := by
  induction t generalizing g with
  | leaf x => exact NodeAt.fresh h hb
  | knot a b iha ihb =>
    obtain ⟨ga, gb, h1, h2, h3⟩ := h
    exact ⟨ga, gb, h1.fresh hb, iha h2, ihb h3⟩

theorem TrAt.mono {w : World} {F F' : Nat → Prop} {t : Tr} {g : Nat} (h : TrAt w F t g) (hf : ∀ k, F k → F' k) : TrAt w F' t g := by
  induction t generalizing g with
  | leaf x => exact NodeAt.mono h hf
  | knot a b iha ihb =>
    obtain ⟨ga, gb, h1, h2, h3⟩ := h
    exact ⟨ga, gb, h1.mono hf, iha h2, ihb h3⟩

theorem TrAt.kept {w w' : World} {F : Nat → Prop} {r : Option Nat} {t : Tr} {g : Nat} (h : TrAt w F t g) (hg : w.grownBy w' r) (hF : ∀ k, F k → k < w.heap.size ∧ r ≠ some k) : TrAt w' F t g := by
  induction t generalizing g with
  | leaf x => exact NodeAt.kept h hg hF
  | knot a b iha ihb =>
    obtain ⟨ga, gb, h1, h2, h3⟩ := h
    exact ⟨ga, gb, h1.kept hg hF, iha h2, ihb h3⟩

theorem TrAt.node {w : World} {F : Nat → Prop} {t : Tr} {g : Nat} (h : TrAt w F t g) : ∃ kids, NodeAt w F g t.hash t.text kids := by
  cases t with
  | leaf x => exact ⟨_, h⟩
  | knot a b =>
    obtain ⟨ga, gb, h1, _⟩ := h
    exact ⟨_, h1⟩

theorem TrAt.head {w : World} {F : Nat → Prop} {t : Tr} {g : Nat} (h : TrAt w F t g) : HeadAt w g t.hash := by
  obtain ⟨k, h1⟩ := h.node
  exact h1.head

/-- A row of trees. -/
def RowAt (w : World) (F : Nat → Prop) (Ps : List Nat) (ts : List Tr) : Prop := Ps.length = ts.length ∧ ∀ (i : Nat) (g : Nat) (t : Tr), Ps[i]? = some g → ts[i]? = some t → TrAt w F t g

theorem RowAt.fresh {w w' : World} {F : Nat → Prop} {Ps : List Nat} {ts : List Tr} (h : RowAt w F Ps ts) (hb : Below w.heap.size w w') : RowAt w' F Ps ts := ⟨h.1, fun i g t h1 h2 => (h.2 i g t h1 h2).fresh hb⟩
theorem RowAt.mono {w : World} {F F' : Nat → Prop} {Ps : List Nat} {ts : List Tr} (h : RowAt w F Ps ts) (hf : ∀ k, F k → F' k) : RowAt w F' Ps ts := ⟨h.1, fun i g t h1 h2 => (h.2 i g t h1 h2).mono hf⟩
theorem RowAt.nil (w : World) (F : Nat → Prop) : RowAt w F [] [] := ⟨rfl, fun i g t h1 => by simp at h1⟩

theorem RowAt.snoc {w : World} {F : Nat → Prop} {Ps : List Nat} {ts : List Tr} {g : Nat} {t : Tr} (h : RowAt w F Ps ts) (ht : TrAt w F t g) : RowAt w F (Ps ++ [g]) (ts ++ [t]) := by
  refine ⟨by simp [h.1], fun i g' t' h1 h2 => ?_⟩
  rcases Nat.lt_or_ge i Ps.length with hi | hi
  · rw [List.getElem?_append_left hi] at h1
    rw [List.getElem?_append_left (by rw [← h.1]; exact hi)] at h2
    exact h.2 i g' t' h1 h2
  · rw [List.getElem?_append_right hi] at h1
    rw [List.getElem?_append_right (by rw [← h.1]; exact hi)] at h2
    rw [← h.1] at h2
    rcases hk : i - Ps.length with _ | k
    · rw [hk] at h1 h2
      simp at h1 h2
      subst h1 h2
      exact ht
    · rw [hk] at h1
      simp at h1

/-- Blocks that stand, other than a slice's own. -/
def OKb (w : World) (v : Value) : Nat → Prop := fun k => k < w.heap.size ∧ v.ownBlock ≠ some k

/-- The own row grows: what stands beside it stays. -/
theorem RowAt.grow {w w' : World} {v v' : Value} {Ps : List Nat} {ts : List Tr} (h : RowAt w (OKb w v) Ps ts) (hg : w.grownBy w' v.ownBlock) (hn : Grew w v v') : RowAt w' (OKb w' v') Ps ts := by
  refine ⟨h.1, fun i g t h1 h2 => ((h.2 i g t h1 h2).kept hg (fun k hk => hk)).mono fun k hk => ⟨Nat.lt_of_lt_of_le hk.1 hg.size, fun e => ?_⟩⟩
  rcases hn k e with h3 | h3
  · exact hk.2 h3
  · have := hk.1; omega

theorem OKb.up {w w' : World} {v : Value} (hs : w.heap.size ≤ w'.heap.size) : ∀ k, OKb w v k → OKb w' v k := fun k hk => ⟨Nat.lt_of_lt_of_le hk.1 hs, hk.2⟩

/-- A slice that reads pointers. -/
theorem Rd.ptr {w : World} {ad : Addr} {n c : Nat} {Ps : List Nat} (h : Rd w 1 (.slice (some ad) n c) n (pvs Ps)) {i g : Nat} (hi : Ps[i]? = some g) : w.cell? (ad.add i) = some (.pointer (some ⟨g, 0, none⟩)) := by
  rcases h.2 with ⟨he, _⟩ | ⟨ad', c', he, _, _, hcell⟩
  · cases he
  · simp only [Value.slice.injEq, Option.some.injEq, true_and] at he
    obtain ⟨rfl, rfl⟩ := he
    exact hcell i _ (pvs_get hi)

theorem Rd.isSome {w : World} {v : Value} {n : Nat} {cs : List Value} (h : Rd w 1 v n cs) (h0 : 0 < n) : ∃ ad c, v = .slice (some ad) n c := by
  rcases h.2 with ⟨_, h1⟩ | ⟨ad, c, he, _⟩
  · omega
  · exact ⟨ad, c, he⟩

theorem infoPtr : (Try.prog.info? 163).map (fun i => (i.zero, i.size, i.bytes)) = some (some (.pointer none), 1, 8) := by kernel_rfl

theorem alloc_ptr (w : World) (g : Nat) : ∃ w', w' = w.alloc (.cells [Value.pointer (some ⟨g, 0, none⟩)].toArray 163) ∧ Rd w' 1 (.slice (some ⟨w.heap.size, 0, none⟩) 1 1) 1 (pvs [g]) ∧ Below w.heap.size w w' ∧ w'.heap.size = w.heap.size + 1 := by
  refine ⟨_, rfl, ⟨rfl, .inr ⟨_, _, rfl, by simp, by simp [maxLen], fun j u hj => ?_⟩⟩, (Below.refl _ w).alloc (Nat.le_refl _) _, Array.size_push _⟩
  rw [add_at, Nat.zero_add]
  exact (CB.new w 163 [Value.pointer (some ⟨g, 0, none⟩)]).cell j u hj

theorem upT_take {row : List Tr} {k : Nat} {t : Tr} (h : (up Tr.knot row)[k]? = some t) : (up Tr.knot row).take (k + 1) = (up Tr.knot row).take k ++ [t] := by
  rw [List.take_add_one, h]; rfl

set_option maxRecDepth 100000 in
set_option maxHeartbeats 8000000 in
theorem tree_some (w : World) (v : Value) (l : List Bs) (h : Hs w v l) (h1 : 1 ≤ l.length) (hl : l.length ≤ 1048576) :
    Calls Try.prog 115 #[v] w fun e w' => ∃ g gt, e = .returned (.pointer (some ⟨g, 0, none⟩)) ∧ NodeAt w' (fun _ => True) g (topB l.length (treeT l).hash) (topT l.length (treeT l).hash) [gt] ∧ TrAt w' (fun _ => True) (treeT l) gt ∧ Below w.heap.size w w' := by
  obtain ⟨i0, hi, hi0, hi1, hi2⟩ := info_parts infoPtr
  obtain ⟨a0, c0, rfl⟩ := h.slice
  obtain ⟨N, hN⟩ : ∃ N, N = l.length := ⟨_, rfl⟩
  obtain ⟨ls, hls⟩ : ∃ ls, ls = l.map Tr.leaf := ⟨_, rfl⟩
  have lsl : ls.length = N := by rw [hls, List.length_map, hN]
  have hend : ∀ t, (upN Tr.knot t ls).length ≤ 1 → upN Tr.knot t ls = [treeT l] := fun t ht => by
    rw [upN_end Tr.knot default t 20 ls (by omega) (by omega) ht, treeT, hls]
  have hlk : ∀ k x, l[k]? = some x → ls.take (k + 1) = ls.take k ++ [Tr.leaf x] := fun k x hx => by
    rw [hls, List.take_add_one, List.getElem?_map, hx]; rfl
  rw [← hN] at h h1 hl ⊢
  have H := Lib.hid h
  have HL := Lib.hid (And.intro h1 (And.intro hl (And.intro hN lsl)))
  have HE := Lib.hid hend
  have HK := Lib.hid hlk
  have i1 : ((N : Int) == 0) = false := by rw [beq_eq_false_iff_ne]; omega
  have iN : (N : Int) ≤ 1048576 := by omega
  clear h h1 hl hN hls lsl hend hlk
  go_enter Try.func115, Try.ntmps115
  go_wp2
  go_loopw [3, 14] (fun v3 v14 wr => ∃ (k : Nat) (Ps : List Nat), k ≤ N ∧ v14 = .int .i64 (k : Int) ∧ Ps.length = k ∧ wr.ownsRow w.heap.size 163 1 v3 k (pvs Ps) ∧ RowAt wr (OKb wr v3) Ps (ls.take k) ∧ Below w.heap.size w wr)
    (fun _ v _ => N - (RowKit.intOf v).toNat)
  case atStart => exact ⟨0, [], Nat.zero_le _, rfl, rfl, World.ownsRow_nil _ _ _ _, RowAt.nil _ _, Below.refl _ _⟩
  case round =>
    obtain ⟨k, Ps, hk, rfl, hP, ho, hr, hb⟩ := hrel
    obtain ⟨a3, c3, rfl⟩ := own_slice ho
    have HP := Lib.hid hP
    have HO := Lib.hid ho
    have HR := Lib.hid hr
    have HB := Lib.hid hb
    clear hP ho hr hb
    by_cases hlt : k < N
    · obtain ⟨x, hx⟩ : ∃ x, l[k]? = some x := ⟨_, List.getElem?_eq_getElem (by rw [← HL.out.2.2.1]; exact hlt)⟩
      have H1 := H.out.fresh HB.out
      obtain ⟨ad, c, he⟩ := H1.isSome (n := N) HL.out.2.2.1.symm (by omega)
      simp only [Value.slice.injEq, true_and] at he
      obtain ⟨rfl, rfl⟩ := he
      have HC := Lib.hid (H1.elem' hx)
      have HX := Lib.hid (And.intro hx (H1.1.get hx))
      have ik : (k : Int) < (N : Int) := by omega
      clear H1 hx hlt
      go_wp2_with (with_reducible refine stopAt 17 ?_)
      refine Stop.go ?_
      refine wpList_load_agg rfl 24 (.tmp 16) rfl (ad.add (k * 32)) rfl (bvs x) _ (HC.out) Try.underlying24 rfl (by rw [bvs_length, HX.out.2]; exact infoHash) ?_
      go_wp2_with (with_reducible refine stopStore 24 ?_)
      refine Stop.go ?_
      refine wpList_store_var rfl 24 (.tmp 5) (.tmp 17) rfl wr.heap.size _ rfl _ (bvs x) rfl (heap_alloc_new wr _) (by simp [HX.out.2]) (bvs_one _) (by rw [bvs_length, HX.out.2]; exact infoHash) ?_
      intro w1 kw1 ow1
      have bw1 : Below wr.heap.size wr w1 := Below.only ((Below.refl _ wr).alloc (Nat.le_refl _) _) ow1 (Nat.le_refl _)
      replace kw1 : CB w1 24 wr.heap.size (bvs x) := kw1
      clear ow1
      have K1 := Lib.hid kw1
      have B1 := Lib.hid bw1
      have B1s : Hid (wr.heap.size ≤ w1.heap.size) := Lib.hid bw1.size
      clear kw1 bw1
      go_wp2_with (with_reducible refine stopAt 19 ?_)
      refine Stop.go ?_
      refine wpList_load_agg rfl 24 (.tmp 5) rfl (⟨wr.heap.size, 0, none⟩) rfl (bvs x) _ ((At.block K1.out).load) Try.underlying24 rfl (by rw [bvs_length, HX.out.2]; exact infoHash) ?_
      go_wp2_with fail
      refine (leafNode_any w1 x HX.out.2).mono ?_
      rintro e w2 ⟨g, rfl, n2, b2⟩
      have B2 := Lib.hid (B1.out.tr b2)
      have N2 := Lib.hid n2
      clear n2 b2 B1 K1
      go_wp2_with (at_builtin; apply Stop.mk)
      refine Stop.go ?_
      obtain ⟨w3, h3, p3, b3, s3⟩ := alloc_ptr w2 g
      change wpList _ _ _ _ _ (w2.alloc (.cells [Value.pointer (some ⟨g, 0, none⟩)].toArray 163))
      rw [← h3]
      have b03 := B2.out.tr b3
      refine wpList_append_rd _ rfl (.tmp 18) (.tmp 21) 160 rfl w.heap.size 163 i0 (.pointer none) 1 8 Try.underlying160 hi hi0 hi1 hi2 rfl (by decide) _ k (pvs Ps) rfl (own_fresh HO.out b03) _ 1 (pvs [g]) rfl p3 (pvs_one _) (by unfold maxLen; omega) (by omega) (by have := HB.out.size; have := b03.size; omega) ?_
      intro v4 w4 hown4 hgr4 _ hnew
      have R4 : Hid (RowAt w4 (OKb w4 v4) (Ps ++ [g]) (ls.take (k + 1))) := Lib.hid (by
        rw [HK.out k x HX.out.1]
        have r1 := (HR.out.fresh b03).mono (OKb.up (w := wr) (w' := w3) (v := .slice a3 k c3) b03.size)
        have n1 := (N2.out.lt (by simp [leafT, textB])).fresh b3
        have n2 : TrAt w3 (OKb w3 (.slice a3 k c3)) (Tr.leaf x) g := n1.mono fun q hq => ⟨Nat.lt_of_lt_of_le hq.2 b3.size, fun e => by
          have h5 := (HO.out.lt q e).2
          have h6 := B1s.out
          have h7 := hq.1
          omega⟩
        exact (r1.snoc n2).grow hgr4 hnew)
      have B4 : Hid (Below w.heap.size w w4) := (HB.out.tr b03).grown hgr4 (by have := HB.out.size; have := b03.size; omega) (fun j hj => (HO.out.lt j hj).1)
      have O4 : Hid (w4.ownsRow w.heap.size 163 1 v4 (k + 1) (pvs (Ps ++ [g]))) := Lib.hid (by rw [pvs_append]; exact hown4)
      have P4 : Hid ((Ps ++ [g]).length = k + 1) := Lib.hid (by simp [HP.out])
      clear h3 p3 b3 s3 b03 hown4 hgr4 hnew
      go_wp2
      go_roundw
      case rel => exact ⟨k + 1, Ps ++ [g], by omega, by go_num, P4.out, O4.out, R4.out, B4.out⟩
      case measure => simp only [RowKit.intOf]; omega
    · have ik : ¬ ((k : Int) < (N : Int)) := by omega
      have hkN : k = N := by omega
      have D0 : Hid (Rd wr 1 (.slice a3 k c3) k (pvs Ps)) := Lib.hid (Rd.of_own HO.out)
      have R0 : Hid (RowAt wr (fun q => q < wr.heap.size) Ps (upN Tr.knot 0 ls)) := Lib.hid (by
        have h1 := HR.out
        rw [List.take_of_length_le (by have := HL.out.2.2.2; omega)] at h1
        exact h1.mono fun q hq => hq.1)
      obtain ⟨w1, hw1⟩ : ∃ w1, w1 = wr := ⟨_, rfl⟩
      rw [← hw1] at D0 R0 HB ⊢
      clear hw1 hkN hlt HO HR
      go_wp2
      go_loopw [3] (fun v3 wr => ∃ (t q : Nat) (Qs : List Nat), q = (upN Tr.knot t ls).length ∧ Qs.length = q ∧ (∃ a c, v3 = .slice a q c) ∧ Rd wr 1 v3 q (pvs Qs) ∧ RowAt wr (fun k => k < wr.heap.size) Qs (upN Tr.knot t ls) ∧ Below w.heap.size w wr)
        (fun v _ => sliceLen v)
      case atStart => exact ⟨0, k, Ps, by have := R0.out.1; rw [← this, HP.out], HP.out, ⟨_, _, rfl⟩, D0.out, R0.out, HB.out⟩
      case round =>
        obtain ⟨t, q, Qs, hq, hQ, ⟨a4, c4, rfl⟩, hd, hr, hb⟩ := hrel
        have HQ := Lib.hid (And.intro hq hQ)
        have HD := Lib.hid hd
        have HR := Lib.hid hr
        have HB2 := Lib.hid hb
        have hqN : q ≤ 1048576 := by
          rw [hq, upN_length, HL.out.2.2.2]
          have := cnt_le N t HL.out.1
          have := HL.out.2.1
          omega
        clear hq hQ hd hr hb
        by_cases h1 : 1 < q
        · have j1 : (1 : Int) < (q : Int) := by omega
          have jq : (q : Int) ≤ 1048576 := by omega
          have H1 := Lib.hid (And.intro h1 hqN)
          obtain ⟨a4', c4', he⟩ := HD.out.isSome (by omega)
          simp only [Value.slice.injEq, true_and] at he
          obtain ⟨rfl, rfl⟩ := he
          obtain ⟨row, hrow⟩ : ∃ row, row = upN Tr.knot t ls := ⟨_, rfl⟩
          rw [← hrow] at HQ HR
          obtain ⟨nx, hnx⟩ : ∃ nx, nx = up Tr.knot row := ⟨_, rfl⟩
          have hnl : Hid (nx.length = (q + 1) / 2) := Lib.hid (by rw [hnx, up_length, ← HQ.out.1])
          have U2 := Lib.hid (fun k x y => up_two Tr.knot row k x y)
          have U1 := Lib.hid (fun k x => up_last Tr.knot row k x)
          rw [← hnx] at U1 U2
          have HNX := Lib.hid (And.intro hrow hnx)
          obtain ⟨w2, hw2⟩ : ∃ w2, w2 = wr := ⟨_, rfl⟩
          rw [← hw2] at HD HR HB2 ⊢
          clear hw2 h1 hqN hrow hnx
          go_wp2
          go_loopw [6, 7] (fun v6 v7 wr => ∃ (k K : Nat) (Rs : List Nat), K = 2 * k ∧ k ≤ (q + 1) / 2 ∧ v7 = .int .i64 (K : Int) ∧ Rs.length = k ∧ wr.ownsRow w2.heap.size 163 1 v6 k (pvs Rs) ∧ RowAt wr (OKb wr v6) Rs (nx.take k) ∧ Below w2.heap.size w2 wr)
            (fun _ v _ => (q + 1) / 2 - (RowKit.intOf v).toNat / 2)
          case atStart => exact ⟨0, 0, [], rfl, Nat.zero_le _, rfl, rfl, World.ownsRow_nil _ _ _ _, RowAt.nil _ _, Below.refl _ _⟩
          case round =>
            obtain ⟨k, K, Rs, hK, hk, rfl, hRl, ho, hr, hb⟩ := hrel
            obtain ⟨a6, c6, rfl⟩ := own_slice ho
            have HRl := Lib.hid hRl
            have HO := Lib.hid ho
            have HS := Lib.hid hr
            have HB3 := Lib.hid hb
            have HK2 := Lib.hid hK
            have HD3 := Lib.hid (HD.out.fresh hb)
            clear hRl ho hr hb
            by_cases hlt : K < q
            · obtain ⟨g1, hg1⟩ : ∃ g, Qs[K]? = some g := ⟨_, List.getElem?_eq_getElem (by rw [HQ.out.2]; exact hlt)⟩
              obtain ⟨t1, ht1⟩ : ∃ x, row[K]? = some x := ⟨_, List.getElem?_eq_getElem (by rw [← HQ.out.1]; exact hlt)⟩
              have T1 := (HR.out.2 K g1 t1 hg1 ht1).fresh HB3.out
              have HG1 := Lib.hid (And.intro hg1 ht1)
              have HT1 := Lib.hid T1
              have ik : (K : Int) < (q : Int) := by omega
              have hc1 := HD3.out.ptr hg1
              clear hg1 ht1 T1
              by_cases hlt2 : K + 1 < q
              · obtain ⟨g2, hg2⟩ : ∃ g, Qs[K + 1]? = some g := ⟨_, List.getElem?_eq_getElem (by rw [HQ.out.2]; exact hlt2)⟩
                obtain ⟨t2, ht2⟩ : ∃ x, row[K + 1]? = some x := ⟨_, List.getElem?_eq_getElem (by rw [← HQ.out.1]; exact hlt2)⟩
                have HT2 := Lib.hid ((HR.out.2 (K + 1) g2 t2 hg2 ht2).fresh HB3.out)
                have HG2 := Lib.hid hg2
                have hU := Lib.hid (U2.out k t1 t2 (by rw [← hK]; exact HG1.out.2) (by rw [← hK]; exact ht2))
                have ik2 : (K : Int) + 1 < (q : Int) := by omega
                have hS : Hid (Rd wr.drew 1 (.slice (some a4') q c4) q (pvs Qs)) := Lib.hid (HD3.out.fresh (Below.refl _ _).drew)
                clear hg2 ht2 hc1 hK hlt hlt2
                go_wp2_with fail
                refine pl_start 14 rfl (fun w' => Rd w' 1 (.slice (some a4') q c4) q (pvs Qs)) (by kernel_rfl) ?_
                obtain ⟨w3, hw3⟩ : ∃ w3, w3 = wr.drew := ⟨_, rfl⟩
                have B3 : Hid (Below wr.heap.size wr w3) := Lib.hid (by rw [hw3]; exact (Below.refl _ wr).drew)
                rw [← hw3] at hS ⊢
                clear hw3
                refine pl_take (i := 0) 38 rfl rfl rfl (by kernel_rfl) (by kernel_rfl) (by kernel_rfl) (by simp [Act.put]) hS.out ?_
                apply Exists.intro
                refine And.intro (fun w' hS' => ?_) ?_
                · go_wp2
                  exact ⟨trivial, rfl⟩
                refine pl_take (i := 1) 39 rfl rfl rfl (by kernel_rfl) (by kernel_rfl) (by kernel_rfl) (by simp [Act.put]) hS.out ?_
                apply Exists.intro
                refine And.intro (fun w' hS' => ?_) ?_
                · go_wp2
                  exact ⟨trivial, rfl⟩
                refine pl_take (i := 2) 40 rfl rfl rfl (by kernel_rfl) (by kernel_rfl) (by kernel_rfl) (by simp [Act.put]) hS.out ?_
                apply Exists.intro
                refine And.intro (fun w' hS' => ?_) ?_
                · go_wp2
                  exact ⟨trivial, rfl⟩
                refine pl_take (i := 3) 41 rfl rfl rfl (by kernel_rfl) (by kernel_rfl) (by kernel_rfl) (by simp [Act.put]) hS.out ?_
                apply Exists.intro
                refine And.intro (fun w' hS' => ?_) ?_
                · go_wp2
                  exact ⟨trivial, rfl⟩
                refine pl_take (i := 4) 42 rfl rfl rfl (by kernel_rfl) (by kernel_rfl) (by kernel_rfl) (by simp [Act.put]) hS.out ?_
                apply Exists.intro
                refine And.intro (fun w' hS' => ?_) ?_
                · have hc := hS'.ptr HG1.out.1
                  clear hS'
                  go_wp2
                  exact ⟨trivial, rfl⟩
                refine pl_take (i := 5) 43 rfl rfl rfl (by kernel_rfl) (by kernel_rfl) (by kernel_rfl) (by simp [Act.put]) hS.out ?_
                apply Exists.intro
                refine And.intro (fun w' hS' => ?_) ?_
                · go_wp2
                  exact ⟨trivial, rfl⟩
                refine pl_take (i := 6) 44 rfl rfl rfl (by kernel_rfl) (by kernel_rfl) (by kernel_rfl) (by simp [Act.put]) hS.out ?_
                apply Exists.intro
                refine And.intro (fun w' hS' => ?_) ?_
                · go_wp2
                  exact ⟨trivial, rfl⟩
                refine pl_take (i := 7) 45 rfl rfl rfl (by kernel_rfl) (by kernel_rfl) (by kernel_rfl) (by simp [Act.put]) hS.out ?_
                apply Exists.intro
                refine And.intro (fun w' hS' => ?_) ?_
                · go_wp2
                  exact ⟨trivial, rfl⟩
                refine pl_take (i := 8) 46 rfl rfl rfl (by kernel_rfl) (by kernel_rfl) (by kernel_rfl) (by simp [Act.put]) hS.out ?_
                apply Exists.intro
                refine And.intro (fun w' hS' => ?_) ?_
                · go_wp2
                  exact ⟨trivial, rfl⟩
                refine pl_take (i := 9) 47 rfl rfl rfl (by kernel_rfl) (by kernel_rfl) (by kernel_rfl) (by simp [Act.put]) hS.out ?_
                apply Exists.intro
                refine And.intro (fun w' hS' => ?_) ?_
                · have hc := hS'.ptr HG2.out
                  simp [Addr.add] at hc
                  clear hS'
                  go_wp2
                  exact ⟨trivial, rfl⟩
                refine pl_heavy (i := 10) rfl (by kernel_rfl) ?_
                go_wp2_with fail
                refine (knotNode_any w3 g1 g2 t1.hash t2.hash (HT1.out.fresh B3.out).head (HT2.out.fresh B3.out).head).mono ?_
                rintro e w4 ⟨g, rfl, n4, b4⟩
                have N4 := Lib.hid n4
                have B4 := Lib.hid (B3.out.tr b4)
                have B3s : Hid (wr.heap.size ≤ w3.heap.size) := Lib.hid B3.out.size
                have S4 := Lib.hid (hS.out.fresh b4)
                clear n4 b4 hS B3
                go_wp2
                refine And.intro S4.out ?_
                refine pl_heavy (i := 11) rfl (by kernel_rfl) ?_
                go_wp2
                obtain ⟨w5, h5, p5, b5, s5⟩ := alloc_ptr w4 g
                have q5 := S4.out.fresh b5
                refine And.intro (by rw [h5] at q5; exact q5) ?_
                change wpAnyH _ _ _ _ _ _ _ _ (w4.alloc (.cells [Value.pointer (some ⟨g, 0, none⟩)].toArray 163))
                rw [← h5]
                have B5 := B4.out.tr b5
                have HB5 := Lib.hid B5
                have O5 := Lib.hid (own_fresh HO.out B5)
                have P5 := Lib.hid p5
                have S5 := Lib.hid q5
                have R5 : Hid (RowAt w5 (OKb w5 (.slice a6 k c6)) (Rs ++ [g]) (nx.take (k + 1))) := Lib.hid (by
                  rw [List.take_add_one, hU.out]
                  have r1 := (HS.out.fresh B5).mono (OKb.up (w := wr) (w' := w5) (v := .slice a6 k c6) B5.size)
                  have hold : ∀ z, z < w2.heap.size → OKb w5 (.slice a6 k c6) z := fun z hz => ⟨by have := HB3.out.size; have := B5.size; omega, fun e => by have := (HO.out.lt z e).1; omega⟩
                  have n1 := (N4.out.lt (by simp [knotT, textB])).fresh b5
                  have m1 : TrAt w5 (OKb w5 (.slice a6 k c6)) (Tr.knot t1 t2) g := ⟨g1, g2, n1.mono (fun z hz => ⟨Nat.lt_of_lt_of_le hz.2 b5.size, fun e => by
                    have h7 := (HO.out.lt z e).2
                    have h8 := hz.1
                    have h9 := B3s.out
                    omega⟩), (HT1.out.fresh B5).mono hold, (HT2.out.fresh B5).mono hold⟩
                  exact r1.snoc m1)
                have Z5 : Hid (w2.heap.size ≤ w5.heap.size) := Lib.hid (by have := HB3.out.size; have := B5.size; omega)
                clear h5 p5 b5 s5 q5 B5 N4 S4 B4
                refine pl_heavy (i := 12) rfl (by kernel_rfl) ?_
                refine wpList_append_rd _ rfl (.tmp 38) (.tmp 49) 160 rfl w2.heap.size 163 i0 (.pointer none) 1 8 Try.underlying160 hi hi0 hi1 hi2 rfl (by decide) _ k (pvs Rs) rfl O5.out _ 1 (pvs [g]) rfl P5.out (pvs_one _) (by unfold maxLen; have := H1.out.2; omega) (by have := H1.out.2; omega) Z5.out ?_
                intro v6 w6 hown6 hgr6 _ hnew
                have R6 := Lib.hid (R5.out.grow hgr6 hnew)
                have B6 : Hid (Below w2.heap.size w2 w6) := Lib.hid ((HB3.out.trans (HB5.out.mono HB3.out.size)).grown hgr6 Z5.out (fun j hj => (HO.out.lt j hj).1))
                have O6 : Hid (w6.ownsRow w2.heap.size 163 1 v6 (k + 1) (pvs (Rs ++ [g]))) := Lib.hid (by rw [pvs_append]; exact hown6)
                have P6 : Hid ((Rs ++ [g]).length = k + 1) := Lib.hid (by simp [HRl.out])
                have S6 := Lib.hid (HD.out.fresh B6.out)
                clear hown6 hgr6 hnew R5 O5 P5 S5
                go_wp2
                refine And.intro S6.out ?_
                refine pl_heavy (i := 13) rfl (by kernel_rfl) ?_
                go_wp2
                refine And.intro S6.out ?_
                refine pl_done (by kernel_rfl) ?_
                go_wp2
                go_roundw
                case rel => exact ⟨k + 1, K + 2, Rs ++ [g], by have := HK2.out; omega, by have := HK2.out; omega, by go_num, P6.out, O6.out, R6.out, B6.out⟩
                case measure => simp only [RowKit.intOf]; omega
              · have ik2 : ¬ ((K : Int) + 1 < (q : Int)) := by omega
                have hU := Lib.hid (U1.out k t1 (by rw [← hK]; exact HG1.out.2) (by rw [← HQ.out.1]; omega))
                clear hK hlt hlt2
                go_wp2_with (at_builtin; apply Stop.mk)
                refine Stop.go ?_
                obtain ⟨w5, h5, p5, b5, s5⟩ := alloc_ptr wr g1
                change wpList _ _ _ _ _ (wr.alloc (.cells [Value.pointer (some ⟨g1, 0, none⟩)].toArray 163))
                rw [← h5]
                have O5 := Lib.hid (own_fresh HO.out b5)
                have R5 : Hid (RowAt w5 (OKb w5 (.slice a6 k c6)) (Rs ++ [g1]) (nx.take (k + 1))) := Lib.hid (by
                  rw [List.take_add_one, hU.out]
                  have r1 := (HS.out.fresh b5).mono (OKb.up (w := wr) (w' := w5) (v := .slice a6 k c6) b5.size)
                  have hold : ∀ z, z < w2.heap.size → OKb w5 (.slice a6 k c6) z := fun z hz => ⟨by have := HB3.out.size; have := b5.size; omega, fun e => by have := (HO.out.lt z e).1; omega⟩
                  exact r1.snoc ((HT1.out.fresh b5).mono hold))
                have Z5 : Hid (w2.heap.size ≤ w5.heap.size) := Lib.hid (by have := HB3.out.size; have := b5.size; omega)
                have P5 := Lib.hid p5
                have HB5 := Lib.hid b5
                clear h5 p5 b5 s5
                refine wpList_append_rd _ rfl (.tmp 51) (.tmp 56) 160 rfl w2.heap.size 163 i0 (.pointer none) 1 8 Try.underlying160 hi hi0 hi1 hi2 rfl (by decide) _ k (pvs Rs) rfl O5.out _ 1 (pvs [g1]) rfl P5.out (pvs_one _) (by unfold maxLen; have := H1.out.2; omega) (by have := H1.out.2; omega) Z5.out ?_
                intro v6 w6 hown6 hgr6 _ hnew
                have R6 := Lib.hid (R5.out.grow hgr6 hnew)
                have B6 : Hid (Below w2.heap.size w2 w6) := Lib.hid ((HB3.out.trans (HB5.out.mono HB3.out.size)).grown hgr6 Z5.out (fun j hj => (HO.out.lt j hj).1))
                have O6 : Hid (w6.ownsRow w2.heap.size 163 1 v6 (k + 1) (pvs (Rs ++ [g1]))) := Lib.hid (by rw [pvs_append]; exact hown6)
                have P6 : Hid ((Rs ++ [g1]).length = k + 1) := Lib.hid (by simp [HRl.out])
                clear hown6 hgr6 hnew R5 O5 P5
                go_wp2
                go_roundw
                case rel => exact ⟨k + 1, K + 2, Rs ++ [g1], by have := HK2.out; omega, by have := HK2.out; omega, by go_num, P6.out, O6.out, R6.out, B6.out⟩
                case measure => simp only [RowKit.intOf]; omega
            · have ik : ¬ ((K : Int) < (q : Int)) := by omega
              have hkk : k = (q + 1) / 2 := by omega
              have B6 : Hid (Below w.heap.size w wr) := Lib.hid (HB2.out.tr HB3.out)
              have D6 := Lib.hid (Rd.of_own HO.out)
              have R6 : Hid (RowAt wr (fun z => z < wr.heap.size) Rs nx) := Lib.hid (by
                have h2 := HS.out
                rw [List.take_of_length_le (by rw [hnl.out]; omega)] at h2
                exact h2.mono fun z hz => hz.1)
              have E6 : Hid (k = (upN Tr.knot (t + 1) ls).length ∧ k < q) := Lib.hid ⟨by rw [upN, ← HNX.out.1, ← HNX.out.2, hnl.out, hkk], by have := H1.out.1; omega⟩
              clear hkk hlt hK
              go_wp2
              go_roundw
              case rel => exact ⟨t + 1, k, Rs, E6.out.1, HRl.out, ⟨_, _, rfl⟩, D6.out, by rw [upN, ← HNX.out.1, ← HNX.out.2]; exact R6.out, B6.out⟩
              case measure => simp only [sliceLen]; exact E6.out.2
        · have j1 : ¬ ((1 : Int) < (q : Int)) := by omega
          have he := HE.out t (by rw [← HQ.out.1]; omega)
          have hq1 : q = 1 := by rw [HQ.out.1, he]; rfl
          rw [he] at HR
          subst hq1
          obtain ⟨a4', c4', he'⟩ := HD.out.isSome (by omega)
          simp only [Value.slice.injEq, true_and] at he'
          obtain ⟨rfl, rfl⟩ := he'
          obtain ⟨g, hg⟩ : ∃ g, Qs[0]? = some g := ⟨_, List.getElem?_eq_getElem (by rw [HQ.out.2]; omega)⟩
          have T1 := Lib.hid (HR.out.2 0 g (treeT l) hg rfl)
          have hc : wr.cell? a4' = some (.pointer (some ⟨g, 0, none⟩)) := by simpa [Addr.add] using HD.out.ptr hg
          clear he hg h1
          go_wp2_with fail
          refine (topNode_any wr N g _ T1.out.head (by omega)).mono ?_
          rintro e w4 ⟨g4, rfl, n4, b4⟩
          have N4 := Lib.hid n4
          have B4 := Lib.hid (HB2.out.tr b4)
          have T4 := Lib.hid (T1.out.fresh b4)
          clear n4 b4 hc
          go_wp2
          go_ret
          exact ⟨g4, g, rfl, N4.out.mono (fun _ _ => trivial), T4.out.mono (fun _ _ => trivial), B4.out⟩

set_option maxRecDepth 100000 in
set_option maxHeartbeats 1000000 in
theorem tree_none (w : World) (v : Value) (l : List Bs) (h : Hs w v l) (h1 : l.length = 0) :
    Calls Try.prog 115 #[v] w fun e w' => ∃ g, e = .returned (.pointer (some ⟨g, 0, none⟩)) ∧ NodeAt w' (fun _ => True) g (topB 0 []) (topT 0 []) [] ∧ Below w.heap.size w w' := by
  obtain ⟨a0, c0, rfl⟩ := h.slice' h1
  clear h h1
  go_enter Try.func115, Try.ntmps115
  go_wp2_with fail
  refine (topNode_nil w 0 (by omega)).mono ?_
  rintro e w1 ⟨g, rfl, n1, b1⟩
  have N1 := Lib.hid n1
  have B1 := Lib.hid b1
  clear n1 b1
  go_wp2
  go_ret
  exact ⟨g, rfl, N1.out.mono (fun _ _ => trivial), B1.out⟩

end Go.Proofs.Ytbabjepblakboaa

/- Merkle: the way of a path: the walk. -/
namespace Go.Proofs.Ytbabjepblakboaa
set_option linter.unusedVariables false
set_option linter.unusedSimpArgs false
open Go.RowKit Go.Lib

def wh (x : Bs) (zs : List (Bs × Bool)) (j : Nat) : Bs := (zs.take j).foldl stepW (leafB x)
def wt (x : Bs) (zs : List (Bs × Bool)) : Nat → Bs
  | 0 => leafT x
  | i + 1 => stepWT (wh x zs i) (zs.getD i ([], false))

/-- The places of a path, from the leaf on. -/
def WayAt (w : World) (F : Nat → Prop) (x : Bs) (zs : List (Bs × Bool)) (Ps : List Nat) : Prop :=
  Ps.length = zs.length + 1 ∧ ∀ (j g : Nat), Ps[j]? = some g → ∃ kids, NodeAt w F g (wh x zs j) (wt x zs j) kids ∧
    ∀ (i : Nat) (z : Bs × Bool), j = i + 1 → zs[i]? = some z → ∃ p q, Ps[i]? = some p ∧ q ≠ p ∧ HeadAt w q z.1 ∧ F q ∧ kids = if z.2 then [q, p] else [p, q]

theorem WayAt.fresh {w w' : World} {F : Nat → Prop} {x : Bs} {zs : List (Bs × Bool)} {Ps : List Nat} (h : WayAt w F x zs Ps) (hb : Below w.heap.size w w') : WayAt w' F x zs Ps :=
  ⟨h.1, fun j g hj => by obtain ⟨kids, h1, h2⟩ := h.2 j g hj; exact ⟨kids, h1.fresh hb, fun i z hi hz => by obtain ⟨p, q, a, b, c, d, e⟩ := h2 i z hi hz; exact ⟨p, q, a, b, c.fresh hb, d, e⟩⟩⟩
theorem WayAt.mono {w : World} {F F' : Nat → Prop} {x : Bs} {zs : List (Bs × Bool)} {Ps : List Nat} (h : WayAt w F x zs Ps) (hf : ∀ k, F k → F' k) : WayAt w F' x zs Ps :=
  ⟨h.1, fun j g hj => by obtain ⟨kids, h1, h2⟩ := h.2 j g hj; exact ⟨kids, h1.mono hf, fun i z hi hz => by obtain ⟨p, q, a, b, c, d, e⟩ := h2 i z hi hz; exact ⟨p, q, a, b, c, hf _ d, e⟩⟩⟩
theorem HeadAt.same {w w' : World} {g : Nat} {h : Bs} (hn : HeadAt w g h) (he : w'.heap[g]? = w.heap[g]?) : HeadAt w' g h := by
  obtain ⟨hl, r, h1⟩ := hn
  refine ⟨hl, r, ?_⟩
  unfold CB at h1 ⊢
  rw [he]; exact h1
theorem WayAt.kept {w w' : World} {F : Nat → Prop} {r : Option Nat} {x : Bs} {zs : List (Bs × Bool)} {Ps : List Nat} (h : WayAt w F x zs Ps) (hg : w.grownBy w' r) (hF : ∀ k, F k → k < w.heap.size ∧ r ≠ some k) : WayAt w' F x zs Ps :=
  ⟨h.1, fun j g hj => by obtain ⟨kids, h1, h2⟩ := h.2 j g hj; exact ⟨kids, h1.kept hg hF, fun i z hi hz => by obtain ⟨p, q, a, b, c, d, e⟩ := h2 i z hi hz; exact ⟨p, q, a, b, c.same (hg.block q (hF q d).1 (fun e => (hF q d).2 e.symm)), d, e⟩⟩⟩

theorem OKb.grow {w w' : World} {v v' : Value} (hg : w.grownBy w' v.ownBlock) (hn : Grew w v v') : ∀ k, OKb w v k → OKb w' v' k := fun k hk => ⟨Nat.lt_of_lt_of_le hk.1 hg.size, fun e => by
  rcases hn k e with h3 | h3
  · exact hk.2 h3
  · have := hk.1; omega⟩

theorem wh_snoc (x : Bs) (zs : List (Bs × Bool)) (z : Bs × Bool) (j : Nat) (hj : j ≤ zs.length) : wh x (zs ++ [z]) j = wh x zs j := by
  unfold wh
  rw [List.take_append_of_le_length hj]

theorem wt_snoc (x : Bs) (zs : List (Bs × Bool)) (z : Bs × Bool) (j : Nat) (hj : j ≤ zs.length) : wt x (zs ++ [z]) j = wt x zs j := by
  cases j with
  | zero => rfl
  | succ i =>
    rw [wt, wt, wh_snoc x zs z i (by omega)]
    congr 1
    rw [List.getD_eq_getElem?_getD, List.getD_eq_getElem?_getD, List.getElem?_append_left (by omega)]

theorem WayAt.snoc {w : World} {F : Nat → Prop} {x : Bs} {zs : List (Bs × Bool)} {Ps : List Nat} {z : Bs × Bool} {g p q : Nat} (h : WayAt w F x zs Ps) (hp : Ps[zs.length]? = some p) (hq : q ≠ p) (hh : HeadAt w q z.1) (hqF : F q)
    (hn : NodeAt w F g (stepW (wh x zs zs.length) z) (stepWT (wh x zs zs.length) z) (if z.2 then [q, p] else [p, q])) : WayAt w F x (zs ++ [z]) (Ps ++ [g]) := by
  refine ⟨by simp [h.1], fun j g' hj => ?_⟩
  rcases Nat.lt_or_ge j Ps.length with hlt | hge
  · rw [List.getElem?_append_left hlt] at hj
    obtain ⟨kids, h1, h2⟩ := h.2 j g' hj
    have hjl : j ≤ zs.length := by rw [h.1] at hlt; omega
    refine ⟨kids, by rw [wh_snoc x zs z j hjl, wt_snoc x zs z j hjl]; exact h1, fun i y hi hy => ?_⟩
    rw [List.getElem?_append_left (by omega)] at hy
    obtain ⟨p', q', h3, h4, h6, h7, h5⟩ := h2 i y hi hy
    exact ⟨p', q', by rw [List.getElem?_append_left (by have := (List.getElem?_eq_some_iff.1 h3).1; exact this)]; exact h3, h4, h6, h7, h5⟩
  · rw [List.getElem?_append_right hge] at hj
    have hj0 : j = Ps.length := by
      rcases hk : j - Ps.length with _ | k
      · omega
      · rw [hk] at hj; simp at hj
    subst hj0
    simp at hj
    subst hj
    have e1 : wh x (zs ++ [z]) Ps.length = stepW (wh x zs zs.length) z := by
      unfold wh
      rw [h.1, List.take_of_length_le (by simp), List.foldl_append, List.take_of_length_le (Nat.le_refl _)]
      rfl
    have e2 : wt x (zs ++ [z]) Ps.length = stepWT (wh x zs zs.length) z := by
      rw [h.1, wt, wh_snoc x zs z zs.length (Nat.le_refl _)]
      congr 1
      simp
    refine ⟨_, by rw [e1, e2]; exact hn, fun i y hi hy => ?_⟩
    have hil : i = zs.length := by rw [h.1] at hi; omega
    subst hil
    simp at hy
    subst hy
    exact ⟨p, q, by rw [List.getElem?_append_left (by rw [h.1]; omega)]; exact hp, hq, hh, hqF, rfl⟩

theorem own_lower {w : World} {base base' : Nat} {e : TypeId} {size : Nat} {v : Value} {n : Nat} {xs : List Value} (h : w.ownsRow base e size v n xs) (hb : base' ≤ base) : w.ownsRow base' e size v n xs :=
  ⟨h.1, h.2.imp id fun ⟨g, cap, cur, h1, h2, h3⟩ => ⟨g, cap, cur, h1, Nat.le_trans hb h2, h3⟩⟩

set_option maxRecDepth 100000 in
set_option maxHeartbeats 8000000 in
theorem way_any (w : World) (x : Bs) (n c : Nat) (v : Value) (hs : List Bs) (hx : x.length = 32) (h : Hs w v hs) (hn : n < c) (hc : c ≤ 1048576) (hl : hs.length = sizeM 20 n c) :
    Calls Try.prog 113 #[.agg (bvs x).toArray, .agg #[.int .i64 (n : Int), .int .i64 (c : Int), v]] w fun e w' => ∃ (v' : Value) (zs : List (Bs × Bool)) (Ps : List Nat) (g gt : Nat), e = .returned v' ∧
      zs = hs.zip (dirsM 20 n c).reverse ∧ Ps.length = zs.length + 1 ∧ Ps[zs.length]? = some g ∧ w'.ownsRow w.heap.size 163 1 v' (Ps.length + 1) (pvs (Ps ++ [gt])) ∧
      WayAt w' (OKb w' v') x zs Ps ∧ NodeAt w' (OKb w' v') gt (topB c (wh x zs zs.length)) (topT c (wh x zs zs.length)) [g] ∧ Below w.heap.size w w' := by
  obtain ⟨i0, hi, hi0, hi1, hi2⟩ := info_parts infoPtr
  obtain ⟨a0, c0, rfl⟩ := h.slice
  obtain ⟨N, hN⟩ : ∃ N, N = hs.length := ⟨_, rfl⟩
  rw [← hN] at h ⊢
  have HX := Lib.hid hx
  have H := Lib.hid h
  have HB := Lib.hid (And.intro hn (And.intro hc (And.intro hl hN)))
  clear h hx hn hc hl hN
  go_enter Try.func113, Try.ntmps113
  go_wp2_with (with_reducible refine stopAt 11 ?_)
  refine Stop.go ?_
  obtain ⟨w1, h1, k1, b1, s1⟩ := alloc_cb w 24 (bvs x)
  obtain ⟨w2, h2, k2, b2, s2⟩ := alloc_cb w1 92 [.int .i64 n, .int .i64 c, .slice a0 N c0]
  change wpList _ _ _ _ _ ((w.alloc (.cells (bvs x).toArray 24)).alloc (.cells [.int .i64 n, .int .i64 c, .slice a0 N c0].toArray 92))
  rw [← h1, ← h2]
  rw [s1] at s2 k2
  have I2 := Lib.hid (k1.fresh b2)
  have P2 := Lib.hid k2
  have B2 := Lib.hid (b1.tr b2)
  have S2 : Hid (w2.heap.size = w.heap.size + 2) := Lib.hid s2
  clear h1 h2 k1 k2 b1 b2 s1 s2
  refine wpList_load_agg rfl 24 (.tmp 2) rfl (⟨w.heap.size, 0, none⟩) rfl (bvs x) _ ((At.block I2.out).load) Try.underlying24 rfl (by rw [bvs_length, HX.out]; exact infoHash) ?_
  go_wp2_with fail
  refine (leafNode_any w2 x HX.out).mono ?_
  rintro e w3 ⟨g0, rfl, n3, b3⟩
  have N3 := Lib.hid n3
  have P3 := Lib.hid (P2.out.fresh b3)
  have B3 := Lib.hid (B2.out.tr b3)
  have S3 : Hid (w.heap.size + 2 ≤ w3.heap.size ∧ w2.heap.size = w.heap.size + 2) := Lib.hid ⟨by have := b3.size; have := S2.out; omega, S2.out⟩
  clear n3 b3 I2 P2 B2 S2
  go_wp2_with (with_reducible refine stopAt 16 ?_)
  refine Stop.go ?_
  obtain ⟨w4, h4, p4, b4, s4⟩ := alloc_ptr w3 g0
  change wpList _ _ _ _ _ (w3.alloc (.cells [Value.pointer (some ⟨g0, 0, none⟩)].toArray 163))
  rw [← h4]
  have O4 : Hid (w4.ownsRow (w.heap.size + 2) 163 1 (.slice (some ⟨w3.heap.size, 0, none⟩) 1 1) 1 (pvs [g0])) := Lib.hid (by
    have q := own_one w3 163 (.pointer (some ⟨g0, 0, none⟩)) (w.heap.size + 2) S3.out.1
    rw [h4]
    exact q)
  have N4 : Hid (WayAt w4 (OKb w4 (.slice (some ⟨w3.heap.size, 0, none⟩) 1 1)) x [] [g0]) := Lib.hid (by
    have q := ((N3.out.lt (by simp [leafT, textB])).fresh b4).mono (F' := OKb w4 (.slice (some ⟨w3.heap.size, 0, none⟩) 1 1)) (fun k hk => ⟨Nat.lt_of_lt_of_le hk.2 b4.size, fun e => by simp [Value.ownBlock] at e; have := hk.2; omega⟩)
    refine ⟨rfl, fun j g hj => ?_⟩
    rcases j with _ | j
    · simp at hj; subst hj
      exact ⟨[], q, fun i z hi => by omega⟩
    · simp at hj)
  have P4 := Lib.hid (P3.out.fresh b4)
  have B4 := Lib.hid (B3.out.tr b4)
  have Z4 : Hid (w.heap.size + 2 ≤ w4.heap.size) := Lib.hid (by have := b4.size; have := S3.out.1; omega)
  obtain ⟨G3, hG3⟩ : ∃ g, g = w3.heap.size := ⟨_, rfl⟩
  rw [← hG3] at O4 N4 ⊢
  clear h4 p4 b4 s4 hG3 N3 P3 B3
  have hc2 := P4.out.cell 2 _ rfl
  go_wp2_with fail
  clear hc2
  have hS : Hid (CB w4.drew 92 (w.heap.size + 1) [.int .i64 n, .int .i64 c, .slice a0 N c0]) := Lib.hid P4.out
  refine pl_start 6 rfl (fun w' => CB w' 92 (w.heap.size + 1) [.int .i64 n, .int .i64 c, .slice a0 N c0]) (by kernel_rfl) ?_
  refine pl_take (i := 0) 17 rfl rfl rfl (by kernel_rfl) (by kernel_rfl) (by kernel_rfl) (by simp [Act.put]) hS.out ?_
  apply Exists.intro
  refine And.intro (fun w' hS' => ?_) ?_
  · go_wp2
    exact ⟨trivial, rfl⟩
  refine pl_take (i := 1) 18 rfl rfl rfl (by kernel_rfl) (by kernel_rfl) (by kernel_rfl) (by simp [Act.put]) hS.out ?_
  apply Exists.intro
  refine And.intro (fun w' hS' => ?_) ?_
  · have hc := hS'.cell 0 _ rfl
    clear hS'
    go_wp2
    exact ⟨trivial, rfl⟩
  refine pl_take (i := 2) 19 rfl rfl rfl (by kernel_rfl) (by kernel_rfl) (by kernel_rfl) (by simp [Act.put]) hS.out ?_
  apply Exists.intro
  refine And.intro (fun w' hS' => ?_) ?_
  · go_wp2
    exact ⟨trivial, rfl⟩
  refine pl_take (i := 3) 20 rfl rfl rfl (by kernel_rfl) (by kernel_rfl) (by kernel_rfl) (by simp [Act.put]) hS.out ?_
  apply Exists.intro
  refine And.intro (fun w' hS' => ?_) ?_
  · have hc := hS'.cell 1 _ rfl
    clear hS'
    go_wp2
    exact ⟨trivial, rfl⟩
  refine pl_take (i := 4) 8 rfl rfl rfl (by kernel_rfl) (by kernel_rfl) (by kernel_rfl) (by simp [Act.put]) hS.out ?_
  apply Exists.intro
  refine And.intro (fun w' hS' => ?_) ?_
  · go_wp2
    exact ⟨trivial, rfl⟩
  refine pl_take (i := 5) 9 rfl rfl rfl (by kernel_rfl) (by kernel_rfl) (by kernel_rfl) (by simp [Act.put]) hS.out ?_
  apply Exists.intro
  refine And.intro (fun w' hS' => ?_) ?_
  · go_wp2
    exact ⟨trivial, rfl⟩
  refine pl_done (by kernel_rfl) ?_
  clear hS
  obtain ⟨w5, hw5⟩ : ∃ w5, w5 = w4.drew := ⟨_, rfl⟩
  rw [← hw5]
  have bd : Below w4.heap.size w4 w5 := by rw [hw5]; exact (Below.refl _ w4).drew
  have zd : w5.heap.size = w4.heap.size := by rw [hw5]; rfl
  have O5 : Hid (w5.ownsRow (w.heap.size + 2) 163 1 (.slice (some ⟨G3, 0, none⟩) 1 1) 1 (pvs [g0])) := Lib.hid (own_fresh O4.out bd)
  have N5 : Hid (WayAt w5 (OKb w5 (.slice (some ⟨G3, 0, none⟩) 1 1)) x [] [g0]) := Lib.hid ((N4.out.fresh bd).mono (OKb.up (Nat.le_of_eq zd.symm)))
  have P5 := Lib.hid (P4.out.fresh bd)
  have B5 := Lib.hid (B4.out.tr bd)
  have Z5 : Hid (w.heap.size + 2 ≤ w5.heap.size) := Lib.hid (by rw [zd]; exact Z4.out)
  have R5 := Lib.hid (H.out.fresh B5.out)
  have U5 : Hid (∀ k, (Value.slice a0 N c0).ownBlock = some k → k < w.heap.size ∨ N = 0) := Lib.hid (fun k hk => by
    rcases Nat.eq_zero_or_pos N with h0 | h0
    · exact .inr h0
    · exact .inl (H.out.own_lt (by rw [← HB.out.2.2.2]; exact h0) hk))
  clear hw5 bd zd O4 N4 P4 B4 Z4
  go_wp2
  go_loopw [5, 6, 7, 8, 9] (fun v5 v6 v7 v8 v9 wr => ∃ (t p q g m : Nat) (zs : List (Bs × Bool)) (Ps : List Nat), p = n / 2 ^ t ∧ q = cnt c t ∧ v8 = .int .i64 (p : Int) ∧ v9 = .int .i64 (q : Int) ∧ v5 = .pointer (some ⟨g, 0, none⟩) ∧
      zs = hs.zip (accD n c t) ∧ zs.length = accS n c t ∧ Ps[zs.length]? = some g ∧ Ps.length = m ∧ wr.ownsRow (w.heap.size + 2) 163 1 v6 m (pvs Ps) ∧ WayAt wr (OKb wr v6) x zs Ps ∧
      Hs wr v7 (hs.drop (accS n c t)) ∧ (∀ k, v7.ownBlock = some k → k < w.heap.size ∨ N = 0) ∧ CB wr 92 (w.heap.size + 1) [.int .i64 n, .int .i64 c, .slice a0 N c0] ∧ w.heap.size + 2 ≤ wr.heap.size ∧ Below w.heap.size w wr)
    (fun _ _ _ _ v _ => (RowKit.intOf v).toNat)
  case atStart => exact ⟨0, n, c, g0, 1, [], [g0], by simp, rfl, rfl, rfl, rfl, by simp [accD], rfl, rfl, rfl, O5.out, N5.out, R5.out, U5.out, P5.out, Z5.out, B5.out⟩
  case round =>
    obtain ⟨t, p, q, g, m, zs, Ps, hp, hq, rfl, rfl, rfl, hzs, hzl, hPg, hPm, ho, hw, hr, hu, hpp, hz, hb⟩ := hrel
    obtain ⟨a6, c6, rfl⟩ := own_slice ho
    obtain ⟨rl, hrl⟩ : ∃ r, r = (hs.drop (accS n c t)).length := ⟨_, rfl⟩
    obtain ⟨a7, c7, rfl⟩ := hr.slice' hrl.symm
    have hpq : p < q := by rw [hp, hq]; exact cnt_div n c t HB.out.1
    have hqc : q ≤ c := by rw [hq]; exact cnt_le c t (by have := HB.out.1; omega)
    have bp : (p : Int) ≤ 1048576 := by have := HB.out.2.1; omega
    have bq : (q : Int) ≤ 1048576 := by have := HB.out.2.1; omega
    have HPQ := Lib.hid (And.intro hp (And.intro hq (And.intro hpq hqc)))
    have HZS := Lib.hid (And.intro hzs (And.intro hzl (And.intro hPg hPm)))
    have HO := Lib.hid ho
    have HW := Lib.hid hw
    have HR := Lib.hid hr
    have HU := Lib.hid hu
    have HPP := Lib.hid hpp
    have HZ := Lib.hid hz
    have HBB := Lib.hid hb
    have HRL := Lib.hid hrl
    clear hp hq hzs hzl hPg hPm ho hw hr hu hpp hz hb hrl
    by_cases h1 : 1 < q
    · have j1 : (1 : Int) < (q : Int) := by omega
      have jx := bits_xor1 p (by have := HB.out.2.1; omega)
      obtain ⟨b, hb⟩ : ∃ b, b = bes p := ⟨_, rfl⟩
      rw [← hb] at jx
      have HBs := Lib.hid hb
      have jp := tdiv2 p
      have jq : ((q : Int) + 1).tdiv 2 = (((q + 1) / 2 : Nat) : Int) := by have := tdiv2 (q + 1); rw [← this]; rfl
      have H1 := Lib.hid h1
      clear hb h1
      by_cases h2 : b < q
      · have j2 : ¬ ((q : Int) ≤ (b : Int)) := by omega
        have hcond : bes (n / 2 ^ t) < cnt c t := by rw [← HPQ.out.1, ← HPQ.out.2.1, ← HBs.out]; exact h2
        have hml : accS n c t < hs.length := by
          rw [HB.out.2.2.1]
          exact accS_lt t 20 n c HB.out.1 HB.out.2.1 hcond
        have ht20 : t < 20 := cnt_many c t HB.out.2.1 (by have := HB.out.1; omega) (by rw [← HPQ.out.2.1]; exact H1.out)
        have hml0 : 0 < rl := by rw [HRL.out, List.length_drop]; omega
        obtain ⟨y, hy⟩ : ∃ y, (hs.drop (accS n c t))[0]? = some y := ⟨_, List.getElem?_eq_getElem (by rw [← HRL.out]; exact hml0)⟩
        obtain ⟨ad, c9', he⟩ := HR.out.isSome HRL.out.symm hml0
        simp only [Value.slice.injEq, true_and] at he
        obtain ⟨rfl, rfl⟩ := he
        have HY := Lib.hid (And.intro hy (HR.out.1.get hy))
        have jm : (1 : Int) ≤ (rl : Int) := by omega
        have jc : (rl : Int) ≤ (c7 : Int) := by have := HR.out.cap; omega
        have ja := bits_and1 p (by have := HB.out.2.1; omega)
        have H2 := Lib.hid (And.intro hcond (And.intro hml (And.intro hml0 ht20)))
        have ez : hs.zip (accD n c (t + 1)) = zs ++ [(y, (n / 2 ^ t) % 2 == 1)] := by
          rw [accD, if_pos hcond, zip_snoc _ _ _ (by rw [accD_length]; exact hml), ← HZS.out.1]
          congr 2
          rw [List.getElem?_drop] at hy
          simp only [accD_length]
          rw [List.getElem?_eq_getElem (by omega)] at hy
          simpa using hy
        have HEZ := Lib.hid ez
        have hc : Hid (∀ j u, (bvs y)[j]? = some u → wr.cell? (ad.add j) = some u) := Lib.hid (by have := HR.out.elem' hy; simpa [Addr.add] using this)
        clear hcond hml hml0 ht20 hy h2 ez hpq hqc
        go_wp2_with (with_reducible refine stopAt 34 ?_)
        refine Stop.go ?_
        refine wpList_load_agg rfl 24 (.tmp 33) rfl (ad) rfl (bvs y) _ (hc.out) Try.underlying24 rfl (by rw [bvs_length, HY.out.2]; exact infoHash) ?_
        go_wp2_with (with_reducible refine stopAt 35 ?_)
        refine Stop.go ?_
        refine wpList_buildP rfl _ _ rfl #[(0, .agg (bvs y).toArray)] _ (by kernel_rfl) (build_node1 wr y HY.out.2) ?_
        obtain ⟨X, hX⟩ : ∃ X : Option Addr, X = if c7 = 1 then some ad else (some ad).map (·.add (1 * 32)) := ⟨_, rfl⟩
        have hX' := Lib.hid hX
        clear hX
        go_wp2_with (with_reducible refine stopAt 38 ?_)
        refine Stop.go ?_
        obtain ⟨w6, h6, k6, b6, s6⟩ := alloc_cb wr 166 (bvs y ++ [Value.slice none 0 0, Value.slice none 0 0])
        change wpList _ _ _ _ _ (wr.alloc (.cells (bvs y ++ [Value.slice none 0 0, Value.slice none 0 0]).toArray 166))
        rw [← h6]
        obtain ⟨gq, hgq⟩ : ∃ g, g = wr.heap.size := ⟨_, rfl⟩
        rw [← hgq] at k6 ⊢
        have HD6 : Hid (HeadAt w6 gq y) := Lib.hid ⟨HY.out.2, _, k6⟩
        have B6 := Lib.hid b6
        have GQ : Hid (gq = wr.heap.size) := Lib.hid hgq
        clear h6 k6 b6 s6 hgq
        refine wpList_slice rfl 22 (.tmp 37) _ _ _ rfl (.slice X _ _) (by rw [hX'.out]; exact run_slice_from Try.underlying22 infoHash (some ad) rl c7 1 (by omega)) ?_
        have pnode : ∃ kids, NodeAt w6 (OKb wr (.slice a6 m c6)) g (wh x zs zs.length) (wt x zs zs.length) kids := by
          obtain ⟨kids, h3, _⟩ := HW.out.2 zs.length g HZS.out.2.2.1
          exact ⟨kids, h3.fresh B6.out⟩
        have HHead : Hid (HeadAt w6 g (wh x zs zs.length) ∧ g < wr.heap.size) := Lib.hid (by
          obtain ⟨kids, h3⟩ := pnode
          exact ⟨h3.head, h3.2.1.1⟩)
        have hwl := Lib.hid HHead.out.1.1
        clear pnode
        rcases Nat.mod_two_eq_zero_or_one p with hpar | hpar
        · rw [hpar] at ja
          have HPAR : Hid (((n / 2 ^ t) % 2 == 1) = false) := Lib.hid (by rw [← HPQ.out.1, hpar]; rfl)
          clear hpar
          go_wp2_with fail
          refine (knotNode_any w6 g gq (wh x zs zs.length) y HHead.out.1 HD6.out).mono ?_
          rintro e w7 ⟨g7, rfl, n7, b7⟩
          have B7 := Lib.hid (B6.out.tr b7)
          have N7 := Lib.hid n7
          have B6s : Hid (wr.heap.size < w6.heap.size ∧ w6.heap.size ≤ w7.heap.size) := Lib.hid ⟨by obtain ⟨_, r, h3⟩ := HD6.out; have := h3.lt; have := GQ.out; omega, b7.size⟩
          have HD7 : Hid (HeadAt w7 gq y) := Lib.hid (HD6.out.fresh b7)
          clear n7 b7
          go_wp2_with (at_builtin; apply Stop.mk)
          refine Stop.go ?_
          obtain ⟨w8, h8, p8, b8, s8⟩ := alloc_ptr w7 g7
          change wpList _ _ _ _ _ (w7.alloc (.cells [Value.pointer (some ⟨g7, 0, none⟩)].toArray 163))
          rw [← h8]
          have B8 := Lib.hid (B7.out.tr b8)
          have P8 := Lib.hid p8
          have W8 : Hid (WayAt w8 (OKb w8 (.slice a6 m c6)) x (zs ++ [(y, (n / 2 ^ t) % 2 == 1)]) (Ps ++ [g7])) := Lib.hid (by
            have r1 := (HW.out.fresh B8.out).mono (OKb.up (w := wr) (w' := w8) (v := .slice a6 m c6) B8.out.size)
            have n1 := ((N7.out.lt (by simp [knotT, textB])).fresh b8).mono (F' := OKb w8 (.slice a6 m c6)) (fun k hk => ⟨Nat.lt_of_lt_of_le hk.2 b8.size, fun e => by
              have h7 := (HO.out.lt k e).2
              have h9 := hk.1
              have := B6s.out.1
              omega⟩)
            refine r1.snoc HZS.out.2.2.1 (q := gq) (by have := HHead.out.2; have := GQ.out; omega) (HD7.out.fresh b8) ⟨by have h1 := b8.size; have h2 := B6s.out; have h3 := GQ.out; omega, fun e => by have h1 := (HO.out.lt gq e).2; have h3 := GQ.out; omega⟩ ?_
            rw [HPAR.out]
            exact n1)
          have Z8 : Hid (w.heap.size + 2 ≤ w8.heap.size) := Lib.hid (Nat.le_trans HZ.out B8.out.size)
          have O8 := Lib.hid (own_fresh HO.out B8.out)
          have M8 : Hid (m ≤ 21) := Lib.hid (by
            have h3 := HZS.out.2.2.2
            have h4 := HW.out.1
            have h5 := HZS.out.2.1
            have h6 := accS_le n c t
            have := H2.out.2.2.2
            omega)
          clear h8 p8 b8 s8
          refine wpList_append_rd _ rfl (.tmp 48) (.tmp 50) 160 rfl (w.heap.size + 2) 163 i0 (.pointer none) 1 8 Try.underlying160 hi hi0 hi1 hi2 rfl (by decide) _ m (pvs Ps) rfl O8.out _ 1 (pvs [g7]) rfl P8.out (pvs_one _) (by unfold maxLen; have := M8.out; omega) (by have := M8.out; omega) Z8.out ?_
          intro v9 w9 hown9 hgr9 _ hnew
          have W9 : Hid (WayAt w9 (OKb w9 v9) x (hs.zip (accD n c (t + 1))) (Ps ++ [g7])) := Lib.hid (by
            rw [HEZ.out]
            exact (W8.out.kept hgr9 (fun k hk => hk)).mono (OKb.grow hgr9 hnew))
          have O9 : Hid (w9.ownsRow (w.heap.size + 2) 163 1 v9 (m + 1) (pvs (Ps ++ [g7]))) := Lib.hid (by rw [pvs_append]; exact hown9)
          have hbl : Below (w.heap.size + 2) w8 w9 := (Below.refl _ w8).grown hgr9 Z8.out (fun j hj => (HO.out.lt j hj).1)
          have B9 : Hid (Below w.heap.size w w9) := Lib.hid ((HBB.out.tr B8.out).trans (hbl.mono (by omega)))
          have P9 := Lib.hid ((HPP.out.fresh B8.out).below hbl (by omega))
          have Z9 : Hid (w.heap.size + 2 ≤ w9.heap.size) := Lib.hid (Nat.le_trans Z8.out hgr9.size)
          have R9 : Hid (Hs w9 (.slice X (rl - 1) (c7 - 1)) (hs.drop (accS n c (t + 1))) ∧ ∀ k, (Value.slice X (rl - 1) (c7 - 1)).ownBlock = some k → k < w.heap.size ∨ N = 0) := Lib.hid (by
            have hown : ∀ k, (Value.slice X (rl - 1) (c7 - 1)).ownBlock = some k → k < w.heap.size ∨ N = 0 := fun k hk => HU.out k (by rw [hX'.out] at hk; exact ownBlock_part hk)
            refine ⟨?_, hown⟩
            have h1 := (HR.out.fresh B8.out).drop HRL.out 1 (by have := H2.out.2.2.1; omega)
            rw [← hX'.out, List.drop_drop] at h1
            rw [accS, if_pos H2.out.1]
            refine ⟨h1.1, h1.2.kept fun k _ hk => hbl.block k ?_⟩
            rcases hown k hk with h3 | h3
            · omega
            · exfalso
              have := HB.out.2.2.2
              have := H2.out.2.1
              omega)
          have G9 : Hid ((Ps ++ [g7])[(hs.zip (accD n c (t + 1))).length]? = some g7 ∧ (Ps ++ [g7]).length = m + 1 ∧ (hs.zip (accD n c (t + 1))).length = accS n c (t + 1)) := Lib.hid (by
            have h3 := HZS.out.2.2.2
            have h4 := HW.out.1
            refine ⟨?_, by simp [h3], ?_⟩
            · rw [HEZ.out, List.getElem?_append_right (by simp; omega)]
              simp [h4]
            · rw [HEZ.out, List.length_append, HZS.out.2.1, accS, if_pos H2.out.1]
              rfl)
          clear hown9 hgr9 hnew hbl W8 O8 P8 B7 N7
          go_wp2
          go_roundw
          case rel => exact ⟨t + 1, p / 2, (q + 1) / 2, g7, m + 1, _, _, by rw [div_step, ← HPQ.out.1], by rw [cnt, ← HPQ.out.2.1], by go_num, by go_num, rfl, rfl, G9.out.2.2, G9.out.1, G9.out.2.1, O9.out, W9.out, R9.out.1, R9.out.2, P9.out, Z9.out, B9.out⟩
          case measure => simp only [RowKit.intOf]; have := H1.out; omega
        · rw [hpar] at ja
          have HPAR : Hid (((n / 2 ^ t) % 2 == 1) = true) := Lib.hid (by rw [← HPQ.out.1, hpar]; rfl)
          clear hpar
          go_wp2_with fail
          refine (knotNode_any w6 gq g y (wh x zs zs.length) HD6.out HHead.out.1).mono ?_
          rintro e w7 ⟨g7, rfl, n7, b7⟩
          have B7 := Lib.hid (B6.out.tr b7)
          have N7 := Lib.hid n7
          have B6s : Hid (wr.heap.size < w6.heap.size ∧ w6.heap.size ≤ w7.heap.size) := Lib.hid ⟨by obtain ⟨_, r, h3⟩ := HD6.out; have := h3.lt; have := GQ.out; omega, b7.size⟩
          have HD7 : Hid (HeadAt w7 gq y) := Lib.hid (HD6.out.fresh b7)
          clear n7 b7
          go_wp2_with (at_builtin; apply Stop.mk)
          refine Stop.go ?_
          obtain ⟨w8, h8, p8, b8, s8⟩ := alloc_ptr w7 g7
          change wpList _ _ _ _ _ (w7.alloc (.cells [Value.pointer (some ⟨g7, 0, none⟩)].toArray 163))
          rw [← h8]
          have B8 := Lib.hid (B7.out.tr b8)
          have P8 := Lib.hid p8
          have W8 : Hid (WayAt w8 (OKb w8 (.slice a6 m c6)) x (zs ++ [(y, (n / 2 ^ t) % 2 == 1)]) (Ps ++ [g7])) := Lib.hid (by
            have r1 := (HW.out.fresh B8.out).mono (OKb.up (w := wr) (w' := w8) (v := .slice a6 m c6) B8.out.size)
            have n1 := ((N7.out.lt (by simp [knotT, textB])).fresh b8).mono (F' := OKb w8 (.slice a6 m c6)) (fun k hk => ⟨Nat.lt_of_lt_of_le hk.2 b8.size, fun e => by
              have h7 := (HO.out.lt k e).2
              have h9 := hk.1
              have := B6s.out.1
              omega⟩)
            refine r1.snoc HZS.out.2.2.1 (q := gq) (by have := HHead.out.2; have := GQ.out; omega) (HD7.out.fresh b8) ⟨by have h1 := b8.size; have h2 := B6s.out; have h3 := GQ.out; omega, fun e => by have h1 := (HO.out.lt gq e).2; have h3 := GQ.out; omega⟩ ?_
            rw [HPAR.out]
            exact n1)
          have Z8 : Hid (w.heap.size + 2 ≤ w8.heap.size) := Lib.hid (Nat.le_trans HZ.out B8.out.size)
          have O8 := Lib.hid (own_fresh HO.out B8.out)
          have M8 : Hid (m ≤ 21) := Lib.hid (by
            have h3 := HZS.out.2.2.2
            have h4 := HW.out.1
            have h5 := HZS.out.2.1
            have h6 := accS_le n c t
            have := H2.out.2.2.2
            omega)
          clear h8 p8 b8 s8
          refine wpList_append_rd _ rfl (.tmp 48) (.tmp 50) 160 rfl (w.heap.size + 2) 163 i0 (.pointer none) 1 8 Try.underlying160 hi hi0 hi1 hi2 rfl (by decide) _ m (pvs Ps) rfl O8.out _ 1 (pvs [g7]) rfl P8.out (pvs_one _) (by unfold maxLen; have := M8.out; omega) (by have := M8.out; omega) Z8.out ?_
          intro v9 w9 hown9 hgr9 _ hnew
          have W9 : Hid (WayAt w9 (OKb w9 v9) x (hs.zip (accD n c (t + 1))) (Ps ++ [g7])) := Lib.hid (by
            rw [HEZ.out]
            exact (W8.out.kept hgr9 (fun k hk => hk)).mono (OKb.grow hgr9 hnew))
          have O9 : Hid (w9.ownsRow (w.heap.size + 2) 163 1 v9 (m + 1) (pvs (Ps ++ [g7]))) := Lib.hid (by rw [pvs_append]; exact hown9)
          have hbl : Below (w.heap.size + 2) w8 w9 := (Below.refl _ w8).grown hgr9 Z8.out (fun j hj => (HO.out.lt j hj).1)
          have B9 : Hid (Below w.heap.size w w9) := Lib.hid ((HBB.out.tr B8.out).trans (hbl.mono (by omega)))
          have P9 := Lib.hid ((HPP.out.fresh B8.out).below hbl (by omega))
          have Z9 : Hid (w.heap.size + 2 ≤ w9.heap.size) := Lib.hid (Nat.le_trans Z8.out hgr9.size)
          have R9 : Hid (Hs w9 (.slice X (rl - 1) (c7 - 1)) (hs.drop (accS n c (t + 1))) ∧ ∀ k, (Value.slice X (rl - 1) (c7 - 1)).ownBlock = some k → k < w.heap.size ∨ N = 0) := Lib.hid (by
            have hown : ∀ k, (Value.slice X (rl - 1) (c7 - 1)).ownBlock = some k → k < w.heap.size ∨ N = 0 := fun k hk => HU.out k (by rw [hX'.out] at hk; exact ownBlock_part hk)
            refine ⟨?_, hown⟩
            have h1 := (HR.out.fresh B8.out).drop HRL.out 1 (by have := H2.out.2.2.1; omega)
            rw [← hX'.out, List.drop_drop] at h1
            rw [accS, if_pos H2.out.1]
            refine ⟨h1.1, h1.2.kept fun k _ hk => hbl.block k ?_⟩
            rcases hown k hk with h3 | h3
            · omega
            · exfalso
              have := HB.out.2.2.2
              have := H2.out.2.1
              omega)
          have G9 : Hid ((Ps ++ [g7])[(hs.zip (accD n c (t + 1))).length]? = some g7 ∧ (Ps ++ [g7]).length = m + 1 ∧ (hs.zip (accD n c (t + 1))).length = accS n c (t + 1)) := Lib.hid (by
            have h3 := HZS.out.2.2.2
            have h4 := HW.out.1
            refine ⟨?_, by simp [h3], ?_⟩
            · rw [HEZ.out, List.getElem?_append_right (by simp; omega)]
              simp [h4]
            · rw [HEZ.out, List.length_append, HZS.out.2.1, accS, if_pos H2.out.1]
              rfl)
          clear hown9 hgr9 hnew hbl W8 O8 P8 B7 N7
          go_wp2
          go_roundw
          case rel => exact ⟨t + 1, p / 2, (q + 1) / 2, g7, m + 1, _, _, by rw [div_step, ← HPQ.out.1], by rw [cnt, ← HPQ.out.2.1], by go_num, by go_num, rfl, rfl, G9.out.2.2, G9.out.1, G9.out.2.1, O9.out, W9.out, R9.out.1, R9.out.2, P9.out, Z9.out, B9.out⟩
          case measure => simp only [RowKit.intOf]; have := H1.out; omega
      · have j2 : (q : Int) ≤ (b : Int) := by omega
        have hns : ¬ bes (n / 2 ^ t) < cnt c t := by rw [← HPQ.out.1, ← HPQ.out.2.1, ← HBs.out]; exact h2
        have HNS : Hid (accD n c (t + 1) = accD n c t ∧ accS n c (t + 1) = accS n c t) := Lib.hid ⟨by rw [accD, if_neg hns, List.append_nil], by rw [accS, if_neg hns]; rfl⟩
        clear hns h2 hpq hqc
        go_wp2
        go_roundw
        case rel => exact ⟨t + 1, p / 2, (q + 1) / 2, g, m, zs, Ps, by rw [div_step, ← HPQ.out.1], by rw [cnt, ← HPQ.out.2.1], by go_num, by go_num, rfl, by rw [HNS.out.1]; exact HZS.out.1, by rw [HNS.out.2]; exact HZS.out.2.1, HZS.out.2.2.1, HZS.out.2.2.2, HO.out, HW.out, by rw [HNS.out.2]; exact HR.out, HU.out, HPP.out, HZ.out, HBB.out⟩
        case measure => simp only [RowKit.intOf]; have := H1.out; omega
    · have j1 : ¬ ((1 : Int) < (q : Int)) := by omega
      have he := accS_end t 20 n c HB.out.1 HB.out.2.1 (by rw [← HPQ.out.2.1]; omega)
      have hd := accD_end t 20 n c HB.out.1 HB.out.2.1 (by rw [← HPQ.out.2.1]; omega)
      have HE : Hid (zs = hs.zip (dirsM 20 n c).reverse ∧ m = zs.length + 1 ∧ m ≤ 21) := Lib.hid ⟨by rw [← hd, List.reverse_reverse]; exact HZS.out.1, by rw [← HZS.out.2.2.2, HW.out.1], by
        rw [← HZS.out.2.2.2, HW.out.1, HZS.out.2.1, he]
        have := sizeM_le 20 n c
        omega⟩
      clear he hd hpq hqc h1
      have hcc := HPP.out.cell 1 _ rfl
      go_wp2_with fail
      clear hcc
      have HHead : Hid (HeadAt wr g (wh x zs zs.length) ∧ g < wr.heap.size) := Lib.hid (by
        obtain ⟨kids, h3, _⟩ := HW.out.2 zs.length g HZS.out.2.2.1
        exact ⟨h3.head, h3.2.1.1⟩)
      refine (topNode_any wr c g (wh x zs zs.length) HHead.out.1 (by have := HB.out.2.1; omega)).mono ?_
      rintro e w7 ⟨g7, rfl, n7, b7⟩
      have B7 := Lib.hid b7
      have N7 := Lib.hid n7
      clear n7 b7
      go_wp2_with (at_builtin; apply Stop.mk)
      refine Stop.go ?_
      obtain ⟨w8, h8, p8, b8, s8⟩ := alloc_ptr w7 g7
      change wpList _ _ _ _ _ (w7.alloc (.cells [Value.pointer (some ⟨g7, 0, none⟩)].toArray 163))
      rw [← h8]
      have B8 := Lib.hid (B7.out.tr b8)
      have P8 := Lib.hid p8
      have Z8 : Hid (w.heap.size + 2 ≤ w8.heap.size) := Lib.hid (Nat.le_trans HZ.out B8.out.size)
      have O8 := Lib.hid (own_fresh HO.out B8.out)
      have W8 : Hid (WayAt w8 (OKb w8 (.slice a6 m c6)) x zs Ps) := Lib.hid ((HW.out.fresh B8.out).mono (OKb.up (w := wr) (w' := w8) (v := .slice a6 m c6) B8.out.size))
      have T8 : Hid (NodeAt w8 (OKb w8 (.slice a6 m c6)) g7 (topB c (wh x zs zs.length)) (topT c (wh x zs zs.length)) [g]) := Lib.hid (((N7.out.lt (by simp [topT, textB])).fresh b8).mono (F' := OKb w8 (.slice a6 m c6)) (fun k hk => ⟨Nat.lt_of_lt_of_le hk.2 b8.size, fun e => by
        have h7 := (HO.out.lt k e).2
        have h9 := hk.1
        omega⟩))
      clear h8 p8 b8 s8
      refine wpList_append_rd _ rfl (.tmp 52) (.tmp 57) 160 rfl (w.heap.size + 2) 163 i0 (.pointer none) 1 8 Try.underlying160 hi hi0 hi1 hi2 rfl (by decide) _ m (pvs Ps) rfl O8.out _ 1 (pvs [g7]) rfl P8.out (pvs_one _) (by unfold maxLen; have := HE.out.2.2; omega) (by have := HE.out.2.2; omega) Z8.out ?_
      intro v9 w9 hown9 hgr9 _ hnew
      have hbl : Below (w.heap.size + 2) w8 w9 := (Below.refl _ w8).grown hgr9 Z8.out (fun j hj => (HO.out.lt j hj).1)
      have FIN := Lib.hid (And.intro (by rw [pvs_append]; exact hown9 : w9.ownsRow (w.heap.size + 2) 163 1 v9 (m + 1) (pvs (Ps ++ [g7]))) (And.intro ((W8.out.kept hgr9 (fun k hk => hk)).mono (OKb.grow hgr9 hnew)) (And.intro ((T8.out.kept hgr9 (fun k hk => hk)).mono (OKb.grow hgr9 hnew)) ((HBB.out.tr B8.out).trans (hbl.mono (by omega))))))
      clear hown9 hgr9 hnew hbl
      go_wp2
      exact bodyPost_ret (results_tmp rfl _ _ _) rfl ⟨v9, zs, Ps, g, g7, rfl, HE.out.1, HW.out.1, HZS.out.2.2.1, by rw [HZS.out.2.2.2]; exact own_lower FIN.out.1 (by omega), FIN.out.2.1, FIN.out.2.2.1, FIN.out.2.2.2⟩

end Go.Proofs.Ytbabjepblakboaa

/- Merkle: a row of places turned round, and the place of a pointer in a short row. -/
namespace Go.Proofs.Ytbabjepblakboaa
set_option linter.unusedVariables false
set_option linter.unusedSimpArgs false
open Go.RowKit Go.Lib Go.Sort

set_option maxRecDepth 1000000 in
set_option maxHeartbeats 4000000 in
theorem reverse_any (blk off cap : Nat) (d : Array Nat) (w : World) (hH : Holds pv w blk off d) (hsz : d.size ≤ 9223372036854775807) :
    Calls Try.prog 114 #[.slice (some ⟨blk, off, none⟩) d.size cap] w fun e w' => e = .returned (.tuple #[]) ∧ ∃ n, w' = putRow pv (Sort.ahead w n) blk off d.reverse := by
  have mixed : Try.prog.follows Departure.mixedOrders = true := by kernel_rfl
  go_enter Try.func114, Try.ntmps114
  go_wp2
  go_loopg [2, 3] d.size (fun k s2 s3 wr => ∃ (i jn : Nat) (jz : Int) (dk : Array Nat) (n : Nat), s2 = .int .i64 i ∧ s3 = .int .i64 jz ∧ ((i : Int) < jz → jz = jn ∧ jn < d.size) ∧ (¬ (i : Int) < jz → ¬ i < jn) ∧ jn - i ≤ k ∧
    dk.size = d.size ∧ wr = putRow pv (Sort.ahead w n) blk off dk ∧ reverseLoop i jn dk = reverseLoop 0 (d.size - 1) d)
  case atStart => exact ⟨0, d.size - 1, (d.size : Int) - 1, d, 0, rfl, rfl, fun h => ⟨by omega, by omega⟩, fun h => by omega, by omega, rfl, (putRow_self pv w blk off d hH).symm, rfl⟩
  case round =>
    obtain ⟨i, jn, jz, dk, n, rfl, rfl, h1, h2, hk, hds, hwr, heq⟩ := hrel
    by_cases hlt : (i : Int) < jz
    · obtain ⟨rfl, hjn⟩ := h1 hlt
      have hij : i < jn := by omega
      have hHk : Holds pv wr blk off dk := by rw [hwr]; exact holds_putRow pv _ blk off d dk (holds_ahead pv w n blk off d hH) hds
      obtain ⟨ci, fi⟩ := hHk i (by omega)
      obtain ⟨cj, fj⟩ := hHk jn (by omega)
      have hid : i < d.size := by omega
      change _ = some (Value.pointer (some ⟨dk[i]!, 0, none⟩)) at ci
      change _ = some (Value.pointer (some ⟨dk[jn]!, 0, none⟩)) at cj
      have A : Aside (wr = putRow pv (Sort.ahead w n) blk off dk) := hwr
      clear hwr hHk hH h1 h2
      go_wp2_with fail
      go_region_o
      go_wp2
      go_roundg (jn - 1 - (i + 1))
      case measure => omega
      case rel =>
        rw [reverseLoop, if_pos hij] at heq
        exact ⟨i + 1, jn - 1, (jn : Int) - 1, swp dk i jn, n + 1, by simp, rfl, fun h => ⟨by omega, by omega⟩, fun h => by omega, Nat.le_refl _, by rw [size_swp]; exact hds,
          swap_world pv (by omega) (by omega) A.out (by first | rfl | simp [pv, getElem!_pos, show jn < dk.size by omega]) (by first | rfl | simp [pv, getElem!_pos, show i < dk.size by omega]), heq⟩
    · have hnot := h2 hlt
      go_wp2
      go_end0
      refine ⟨rfl, n, ?_⟩
      rw [reverseLoop, if_neg hnot] at heq
      rw [← Lib.reverseLoop_reverse, ← heq]

set_option maxRecDepth 100000 in
set_option maxHeartbeats 4000000 in
/-- The place of a pointer in a row. -/
theorem index_any (w : World) (ad : Addr) (n c : Nat) (l : List Nat) (g i : Nat) (h : Rd w 1 (.slice (some ad) n c) n (pvs l)) (hn : l.length = n) (hn1 : n ≤ 1000) (hi : l[i]? = some g) (hf : ∀ j, j < i → ∃ p, l[j]? = some p ∧ p ≠ g ∧ ∃ cp tp, w.heap[p]? = some (.cells cp tp (0, 0))) (hgb : ∃ cg tg, w.heap[g]? = some (.cells cg tg (0, 0))) :
    Calls Try.prog 116 #[.slice (some ad) n c, .pointer (some ⟨g, 0, none⟩)] w fun e w' => e = .returned (.int .i64 (i : Int)) ∧ w' = w := by
  have H := Lib.hid h
  have HI := Lib.hid (And.intro hi hf)
  have HN := Lib.hid hn
  have HG := Lib.hid hgb
  have hil : i < n := by rw [← hn]; exact (List.getElem?_eq_some_iff.1 hi).1
  clear h hi hf hn hgb
  obtain ⟨jn, hjn, hjs⟩ : ∃ j, Try.prog.info? 166 = some j ∧ j.size ≠ 0 := by
    obtain ⟨j, h1, h2⟩ := Option.map_eq_some_iff.1 infoNode
    exact ⟨j, h1, by omega⟩
  have HJ := Lib.hid (And.intro hjn hjs)
  clear hjn hjs
  go_enter Try.func116, Try.ntmps116
  go_wp2
  go_loopw [8] (fun v8 wr => ∃ (k : Nat), k ≤ i ∧ v8 = .int .i64 (k : Int) ∧ wr = w)
    (fun v _ => n - (RowKit.intOf v).toNat)
  case atStart => exact ⟨0, Nat.zero_le _, rfl, rfl⟩
  case round =>
    obtain ⟨k, hk, rfl, rfl⟩ := hrel
    have ik : (k : Int) < (n : Int) := by omega
    have ik' : (k : Int) ≤ 1000 := by omega
    obtain ⟨p, hp⟩ : ∃ p, l[k]? = some p := ⟨_, List.getElem?_eq_getElem (by rw [HN.out]; omega)⟩
    have hc := H.out.ptr hp
    by_cases he : p = g
    · have hik : i = k := by
        rcases Nat.lt_or_ge k i with h1 | h1
        · obtain ⟨p', h2, h3, _⟩ := HI.out.2 k h1
          rw [hp] at h2
          exact absurd ((Option.some.inj h2).symm.trans he) h3
        · omega
      subst hik
      subst he
      have hq := run_eql_ptr_same (P := Try.prog) wr (tp := 163) (te := 166) ⟨p, 0, none⟩ (by kernel_rfl) HJ.out.1
      go_wp2
      exact bodyPost_ret (results_tmp rfl _ _ _) rfl ⟨rfl, rfl⟩
    · have hki : k < i := by
        rcases Nat.lt_or_ge k i with h1 | h1
        · exact h1
        · have : k = i := by omega
          subst this
          rw [hp] at HI
          exact absurd (by simpa using HI.out.1) he
      obtain ⟨p', h2, h3, cp, tp, h4⟩ := HI.out.2 k hki
      obtain ⟨cg, tg, h5⟩ := HG.out
      rw [hp] at h2
      have hpp := Option.some.inj h2
      subst hpp
      have hq := run_eql_ptr_other (P := Try.prog) wr (tp := 163) (te := 166) (a := ⟨g, 0, none⟩) (b := ⟨p, 0, none⟩) (by kernel_rfl) HJ.out.1 HJ.out.2 (fun e => h3 (by injection e with e1; exact e1.symm)) h5 h4
      clear h4 h5 h2 h3
      go_wp2
      go_roundw
      case rel => exact ⟨k + 1, by omega, by go_num, trivial⟩
      case measure => simp only [RowKit.intOf]; omega

end Go.Proofs.Ytbabjepblakboaa

/- Two strings of known bytes, compared. -/
namespace Go.Proofs.Ytbabjepblakboaa
open Go.RowKit

theorem str_guard (w : World) (op : BinOp) (x y : Operand) (a b : ByteArray) : (eqGuard op 9 x y (.string a) (.string b)).run Try.prog w = .ok () w := by
  cases op <;> rfl

theorem str_neq (w : World) (X O : List UInt8) : (binOp .neq 9 (.string ⟨X.toArray⟩) (.string ⟨O.toArray⟩)).run Try.prog w = .ok (.bool (X != O)) w := by
  have e : ∀ Y : List UInt8, (⟨Y.toArray⟩ : ByteArray).toList = Y := fun Y => by simp
  simp only [binOp, Op.stringOp, e]
  rfl

end Go.Proofs.Ytbabjepblakboaa

/- Merkle: two trees beside each other, step by step down a way: in plain words. -/
namespace Go.Proofs.Ytbabjepblakboaa
set_option linter.unusedVariables false
set_option linter.unusedSimpArgs false
open Go.RowKit Go.Lib

theorem Tr.sub_nil (t : Tr) : t.sub [] = t := by cases t <;> rfl
theorem Tr.sub_append (t : Tr) (a b : List Bool) : t.sub (a ++ b) = (t.sub a).sub b := by
  induction a generalizing t with
  | nil => rw [List.nil_append, Tr.sub_nil]
  | cons d r ih =>
    cases t with
    | leaf x => cases b <;> simp [Tr.sub]
    | knot p q => cases d <;> simpa [Tr.sub] using ih _

theorem le_inj {n m : Nat} (h : le n 8 = le m 8) (hn : n ≤ 1048576) (hm : m ≤ 1048576) : n = m := by
  have e : ∀ a b : Nat, UInt8.ofNat a = UInt8.ofNat b → a % 256 = b % 256 := fun a b h => by
    have := congrArg UInt8.toNat h
    simpa using this
  simp only [le, List.append_assoc, List.nil_append, List.cons_append, List.cons.injEq] at h
  have h0 := e _ _ h.1
  have h1 := e _ _ h.2.1
  have h2 := e _ _ h.2.2.1
  simp only [Nat.mul_zero, Nat.mul_one, Nat.reduceMul, Nat.reducePow, Nat.pow_zero, Nat.div_one] at h0 h1 h2
  omega

theorem leafT_inj {a b : Bs} (h : leafT a = leafT b) : a = b := by simpa [leafT, textB] using h
theorem leaf_knot {a b c : Bs} (h : leafT a = knotT b c) : False := by simp [leafT, knotT, textB] at h
theorem knotT_append {a b c d : Bs} (h : knotT a b = knotT c d) : a ++ b = c ++ d := by simpa [knotT, textB] using h
theorem topT_append {n m : Nat} {a b : Bs} (h : topT n a = topT m b) : le n 8 ++ a = le m 8 ++ b := by simpa [topT, textB] using h

theorem wh_length (x : Bs) (zs : List (Bs × Bool)) (j : Nat) (hj : j ≤ zs.length) : (wh x zs j).length = 32 := by
  cases j with
  | zero => exact leafB_length x
  | succ i =>
    unfold wh
    rw [List.take_add_one, List.foldl_append, List.getElem?_eq_getElem hj]
    simp only [Option.toList, List.foldl_cons, List.foldl_nil, stepW]
    split <;> exact knotB_length _ _

theorem wh_succ (x : Bs) (zs : List (Bs × Bool)) (i : Nat) (hi : i < zs.length) : wh x zs (i + 1) = stepW (wh x zs i) (zs.getD i ([], false)) := by
  unfold wh
  rw [List.take_add_one, List.foldl_append, List.getElem?_eq_getElem hi, List.getD_eq_getElem?_getD, List.getElem?_eq_getElem hi]
  rfl

theorem wt_hash (x : Bs) (zs : List (Bs × Bool)) (j : Nat) (hj : j ≤ zs.length) : shaB (wt x zs j) = wh x zs j := by
  cases j with
  | zero => rfl
  | succ i =>
    rw [wh_succ x zs i hj, wt]
    unfold stepW stepWT
    split <;> rfl

/-- The own tree's place at a step of the way down. -/
def OwnAt (w : World) (l : List Bs) (c : Nat) (x : Bs) (zs : List (Bs × Bool)) (D : List Bool) : Nat → Nat → Prop
  | 0, o => (l = [] ∧ NodeAt w (fun _ => True) o (topB 0 []) (topT 0 []) []) ∨ (l ≠ [] ∧ ∃ gt, NodeAt w (fun _ => True) o (topB l.length (treeT l).hash) (topT l.length (treeT l).hash) [gt] ∧ TrAt w (fun _ => True) (treeT l) gt)
  | i + 1, o => c = l.length ∧ l ≠ [] ∧ TrAt w (fun _ => True) ((treeT l).sub (D.take i)) o ∧ ((treeT l).sub (D.take i)).hash = wh x zs (zs.length - i)

/-- Each leaf of a tree is a hash. -/
def Tr.ok : Tr → Prop
  | .leaf x => x.length = 32
  | .knot a b => a.ok ∧ b.ok

theorem up_all {α : Type} (K : α → α → α) (P : α → Prop) (hK : ∀ a b, P a → P b → P (K a b)) (l : List α) (h : ∀ x ∈ l, P x) : ∀ x ∈ up K l, P x := by
  induction l using up.induct with
  | case1 a b l ih =>
    intro x hx
    simp only [up, List.mem_cons] at hx
    rcases hx with rfl | hx
    · exact hK _ _ (h _ (by simp)) (h _ (by simp))
    · exact ih (fun y hy => h y (by simp [hy])) x hx
  | case2 a => exact h
  | case3 => exact h

theorem upN_all {α : Type} (K : α → α → α) (P : α → Prop) (hK : ∀ a b, P a → P b → P (K a b)) (m : Nat) (l : List α) (h : ∀ x ∈ l, P x) : ∀ x ∈ upN K m l, P x := by
  induction m with
  | zero => exact h
  | succ m ih => exact up_all K P hK _ ih

theorem treeT_ok (l : List Bs) (h : H32 l) (h1 : 1 ≤ l.length) (h2 : l.length ≤ 1048576) : (treeT l).ok := by
  have h3 := upN_left Tr.knot default 20 (l.map Tr.leaf) (by simpa using h1) (by simpa using h2)
  have h4 := upN_all Tr.knot Tr.ok (fun a b ha hb => ⟨ha, hb⟩) 20 (l.map Tr.leaf) (fun x hx => by
    obtain ⟨y, hy, rfl⟩ := List.mem_map.1 hx
    exact h y hy)
  rw [h3] at h4
  exact h4 _ (by simp [treeT])

theorem Tr.sub_ok (t : Tr) (D : List Bool) (h : t.ok) : (t.sub D).ok := by
  induction D generalizing t with
  | nil => rw [Tr.sub_nil]; exact h
  | cons d r ih =>
    cases t with
    | leaf x => simpa [Tr.sub] using h
    | knot p q =>
      cases d
      · simpa only [Tr.sub] using ih _ h.1
      · simpa only [Tr.sub] using ih _ h.2

theorem leafT_length (x : Bs) (h : x.length = 32) : (leafT x).length ≤ 100 := by simp [leafT, textB, h]
theorem knotT_length (x y : Bs) (h : x.length = 32) (h' : y.length = 32) : (knotT x y).length ≤ 100 := by simp [knotT, textB, h, h']
theorem topT_length (n : Nat) (x : Bs) (h : x.length ≤ 32) : (topT n x).length ≤ 100 := by simp [topT, textB]; omega
theorem Tr.text_length (t : Tr) (h : t.ok) : t.text.length ≤ 100 := by
  cases t with
  | leaf x => exact leafT_length x h
  | knot a b => exact knotT_length _ _ a.hash_length b.hash_length

/-- What a pointer leads past. -/
def Past (w : World) (kX : List Nat) (idx p : Nat) : Prop := ∀ j, j < idx → ∃ q, kX[j]? = some q ∧ q ≠ p ∧ ∃ cp tp, w.heap[q]? = some (.cells cp tp (0, 0))

theorem level {w : World} {F : Nat → Prop} {l hs : List Bs} {n c : Nat} {x : Bs} {zs : List (Bs × Bool)} {D : List Bool} {Ps : List Nat} {g gt i o : Nat}
    (hw : WayAt w F x zs Ps) (hPg : Ps[zs.length]? = some g) (hgt : NodeAt w F gt (topB c (wh x zs zs.length)) (topT c (wh x zs zs.length)) [g])
    (hzs : zs = hs.zip D.reverse) (hD : D = dirsM 20 n c) (hnc : n < c) (hc : c ≤ 1048576) (hl : hs.length = sizeM 20 n c)
    (hroot : topB c (wh x zs zs.length) = rootB l) (hll : l.length ≤ 1048576) (hne : ¬ (c = l.length ∧ l.getD n [] = x)) (h32 : H32 l) (hx : x.length = 32) (hi : i ≤ zs.length + 1) (ho : OwnAt w l c x zs D i o) :
    ∃ gx hX X kX hO O kO, (Ps ++ [gt])[zs.length + 1 - i]? = some gx ∧ NodeAt w F gx hX X kX ∧ NodeAt w (fun _ => True) o hO O kO ∧ shaB X = shaB O ∧ (X.length ≤ 100 ∧ O.length ≤ 100) ∧
      (X = O → i ≤ zs.length ∧ kX.length ≤ 2 ∧ ∃ idx p o', idx ≤ 1 ∧ (Ps ++ [gt])[zs.length - i]? = some p ∧ kX[idx]? = some p ∧ Past w kX idx p ∧ kO[idx]? = some o' ∧ OwnAt w l c x zs D (i + 1) o') := by
  have hDl : D.length = zs.length := by
    rw [hzs, List.length_zip, List.length_reverse, hD, dirsM_length, hl, Nat.min_self]
  have hPl := hw.1
  have hg : (Ps ++ [gt])[zs.length]? = some g := by rw [List.getElem?_append_left (by omega)]; exact hPg
  have hwl := wh_length x zs zs.length (Nat.le_refl _)
  cases i with
  | zero =>
    have e0 : (Ps ++ [gt])[zs.length + 1 - 0]? = some gt := by rw [Nat.sub_zero, ← hPl, List.getElem?_append_right (Nat.le_refl _)]; simp
    rcases ho with ⟨rfl, hn⟩ | ⟨hl0, gt', hn, htr⟩
    · refine ⟨gt, _, _, _, _, _, _, e0, hgt, hn, ?_, ⟨topT_length _ _ (by omega), topT_length _ _ (by simp)⟩, fun e => ?_⟩
      · exact hroot
      · have h1 := congrArg List.length (topT_append e)
        simp [hwl] at h1
    · refine ⟨gt, _, _, _, _, _, _, e0, hgt, hn, ?_, ⟨topT_length _ _ (by omega), topT_length _ _ (by rw [Tr.hash_length]; omega)⟩, fun e => ?_⟩
      · refine hroot.trans ?_
        rw [rootB, if_neg hl0, ← treeT_hash l (by cases l; · exact absurd rfl hl0
                                                  · simp) hll]
        rfl
      · have h1 := List.append_inj (topT_append e) (by simp)
        have h2 : c = l.length := le_inj h1.1 (by omega) (by omega)
        refine ⟨Nat.zero_le _, Nat.le_succ 1, 0, g, gt', by omega, hg, rfl, fun j hj => absurd hj (Nat.not_lt_zero _), rfl, h2, hl0, ?_, ?_⟩
        · rw [List.take_zero, Tr.sub_nil]; exact htr
        · rw [List.take_zero, Tr.sub_nil]; exact h1.2.symm
  | succ k =>
    obtain ⟨hcl, hl0, htr, hh⟩ := ho
    have hk : k ≤ zs.length := by omega
    obtain ⟨gx, hgx⟩ : ∃ gx, Ps[zs.length - k]? = some gx := ⟨_, List.getElem?_eq_getElem (by omega)⟩
    obtain ⟨kids, hnode, hkids⟩ := hw.2 _ _ hgx
    have e0 : (Ps ++ [gt])[zs.length + 1 - (k + 1)]? = some gx := by rw [Nat.add_sub_add_right, List.getElem?_append_left (by omega)]; exact hgx
    obtain ⟨t, ht⟩ : ∃ t, t = (treeT l).sub (D.take k) := ⟨_, rfl⟩
    rw [← ht] at htr hh
    have htok : t.ok := by
      rw [ht]
      exact Tr.sub_ok _ _ (treeT_ok l h32 (by cases l; · exact absurd rfl hl0
                                              · simp) hll)
    have hle : (wt x zs (zs.length - k)).length ≤ 100 ∧ t.text.length ≤ 100 := by
      refine ⟨?_, Tr.text_length t htok⟩
      rcases hj : zs.length - k with _ | j
      · exact leafT_length x hx
      · have hjz : j < zs.length := by omega
        obtain ⟨z, hz⟩ : ∃ z, zs[j]? = some z := ⟨_, List.getElem?_eq_getElem hjz⟩
        have hzD : zs.getD j ([], false) = z := by rw [List.getD_eq_getElem?_getD, hz]; rfl
        obtain ⟨p, q, hp, hq, hqh, hqF, hkx⟩ := hkids j z hj hz
        have h1 := wh_length x zs j (by omega)
        rw [wt, hzD, stepWT]
        split
        · exact knotT_length _ _ hqh.1 h1
        · exact knotT_length _ _ h1 hqh.1
    have hsha : shaB (wt x zs (zs.length - k)) = shaB t.text := by rw [wt_hash x zs _ (by omega), ← hh, Tr.hash_text]
    rcases hj : zs.length - k with _ | j
    · -- the leaf
      obtain ⟨kO, hO⟩ := htr.node
      refine ⟨gx, _, _, _, _, _, _, e0, hnode, hO, hsha, hle, fun e => ?_⟩
      exfalso
      have hkz : k = D.length := by omega
      have hleaf : t = .leaf (l.getD n []) := by
        have h1 := tree_sub 20 n l (by omega) hll
        rw [ht, hkz, List.take_length, hD, hcl]
        exact h1
      rw [hj, hleaf] at e
      exact hne ⟨hcl, (leafT_inj e).symm⟩
    · have hjz : j < zs.length := by omega
      obtain ⟨z, hz⟩ : ∃ z, zs[j]? = some z := ⟨_, List.getElem?_eq_getElem hjz⟩
      have hzD : zs.getD j ([], false) = z := by rw [List.getD_eq_getElem?_getD, hz]; rfl
      obtain ⟨p, q, hp, hq, hqh, hqF, hkx⟩ := hkids j z hj hz
      have hDk : D[k]? = some z.2 := by
        have h1 : D.reverse[j]? = some z.2 := by
          rw [hzs, List.getElem?_zip_eq_some] at hz
          exact hz.2
        rw [List.getElem?_reverse (by omega)] at h1
        rw [← h1]
        congr 1
        omega
      have htake : D.take (k + 1) = D.take k ++ [z.2] := by rw [List.take_add_one, hDk]; rfl
      have hwj := wh_length x zs j (by omega)
      have hpp : (Ps ++ [gt])[zs.length - (k + 1)]? = some p := by
        rw [List.getElem?_append_left (by omega), show zs.length - (k + 1) = j by omega]
        exact hp
      have hsub : (treeT l).sub (D.take (k + 1)) = t.sub [z.2] := by rw [htake, Tr.sub_append, ← ht]
      have hlen : zs.length - (k + 1) = j := by omega
      rw [hj] at hnode hsha hle
      cases t with
      | leaf y =>
        refine ⟨gx, _, _, _, _, _, _, e0, hnode, htr, hsha, hle, fun e => ?_⟩
        exfalso
        rw [wt, hzD] at e
        unfold stepWT at e
        split at e <;> exact leaf_knot e.symm
      | knot a b =>
        obtain ⟨ga, gb, hn, hta, htb⟩ := htr
        refine ⟨gx, _, _, _, _, _, _, e0, hnode, hn, hsha, hle, fun e => ⟨by omega, by rw [hkx]; split <;> exact Nat.le_refl 2, ?_⟩⟩
        rw [wt, hzD] at e
        have hqb : ∃ cp tp, w.heap[q]? = some (.cells cp tp (0, 0)) := by
          obtain ⟨_, r, h1⟩ := hqh
          exact ⟨_, _, h1⟩
        rcases hb : z.2 with _ | _
        · rw [hb] at hkx hsub
          rw [stepWT, hb] at e
          have h1 := List.append_inj (knotT_append e) (by rw [hwj, Tr.hash_length])
          refine ⟨0, p, ga, by omega, hpp, by rw [hkx]; rfl, fun j hj => absurd hj (Nat.not_lt_zero _), rfl, hcl, hl0, ?_, ?_⟩
          · rw [hsub]; simpa [Tr.sub] using hta
          · rw [hsub, hlen]; simpa [Tr.sub] using h1.1.symm
        · rw [hb] at hkx hsub
          rw [stepWT, hb] at e
          have h1 := List.append_inj' (knotT_append e) (by rw [hwj, Tr.hash_length])
          refine ⟨1, p, gb, by omega, hpp, by rw [hkx]; rfl, fun j hj => ⟨q, by rw [hkx, show j = 0 by omega]; rfl, hq, hqb⟩, rfl, hcl, hl0, ?_, ?_⟩
          · rw [hsub]; simpa [Tr.sub] using htb
          · rw [hsub, hlen]; simpa [Tr.sub] using h1.2.symm

end Go.Proofs.Ytbabjepblakboaa
