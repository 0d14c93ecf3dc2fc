/- MerkleMeans: the law's walk, of a place there is. -/
import Derived.Test.YtbabjepblakboaaZn
namespace Go.Proofs.Ytbabjepblakboaa
set_option linter.unusedVariables false
set_option linter.unusedSimpArgs false
open Go.RowKit Go.Lib

set_option maxRecDepth 100000 in
set_option maxHeartbeats 4000000 in
theorem ym_main (w : World) (v : Value) (l : List Bs) (h : Hs w v l) (p : Nat) (O : Bs) (hO : O.length = 32) (q : Int) (h70 : ¬ 70 < l.length) (hp : p < l.length) :
    Calls Try.prog 11 #[v, .int .i64 (p : Int), .agg (bvs O).toArray, .int .i64 q] w fun e w' => e = .returned (.bool true) ∧ Below w.heap.size w w' := by
  obtain ⟨ad, c0, rfl⟩ := h.isSome rfl (by omega)
  obtain ⟨x, hx⟩ : ∃ x, l[p]? = some x := ⟨_, List.getElem?_eq_getElem hp⟩
  have hl : l.length ≤ 1048576 := by omega
  obtain ⟨R, hR⟩ : ∃ R, R = rootB l := ⟨_, rfl⟩
  obtain ⟨Pt, hPt⟩ : ∃ P, P = pathB p l := ⟨_, rfl⟩
  have hRl : R.length = 32 := by rw [hR]; exact topB_length _ _
  have hxl : x.length = 32 := h.1.get hx
  have CR := fun w0 h0 => mroot_any w0 (.slice (some ad) l.length c0) l h0 hl
  have CP := fun w0 h0 => mpath_ok w0 p (.slice (some ad) l.length c0) l h0 hp hl
  have F0 := check_own hx hl
  have F1 : O ≠ x → checkE R O (p : Int) (l.length : Int) Pt = 0 → collB l O (p : Int) (l.length : Int) Pt = true := fun h1 h2 =>
    coll_true (y := x) (by rw [← hR]; exact h2) (fun _ _ e => h1 e.symm) (fun _ => by simpa using hx)
  have F2 : R ≠ O → checkE O x (p : Int) (l.length : Int) Pt = 21 := fun h1 => by rw [hPt]; exact check_root hx hl (by rw [← hR]; exact h1)
  have F3 : ∀ (z : Nat) (y : Bs), l[z]? = some y → y ≠ x → checkE R x (z : Int) (l.length : Int) Pt = 0 → collB l x (z : Int) (l.length : Int) Pt = true := fun z y h1 h2 h3 =>
    coll_true (y := y) (by rw [← hR]; exact h3) (fun _ _ => h2) (fun _ => by simpa using h1)
  change ∀ (w0 : World), Hs w0 (.slice (some ad) l.length c0) l → Calls Try.prog 47 #[.int .i64 (p : Int), .slice (some ad) l.length c0] w0 fun e w' => ∃ v', e = .returned (.tuple #[.agg #[.int .i64 (p : Int), .int .i64 (l.length : Int), v'], .int .i64 0]) ∧ Hs w' v' (pathB p l) ∧ Below w0.heap.size w0 w' at CP
  rw [← hR] at CR F0
  rw [← hPt] at CP F0
  obtain ⟨N, hN⟩ : ∃ N, N = l.length := ⟨_, rfl⟩
  rw [← hN] at CR CP F0 F1 F2 F3 h h70 hp ⊢
  replace CR := Lib.hid CR
  replace CP := Lib.hid CP
  replace F0 := Lib.hid F0
  replace F1 := Lib.hid F1
  replace F2 := Lib.hid F2
  replace F3 := Lib.hid F3
  have H := Lib.hid h
  have HX := Lib.hid (And.intro hx hxl)
  have HL := Lib.hid (And.intro hRl (And.intro hO (And.intro hl hN)))
  have i70 : ¬ ((70 : Int) < (N : Int)) := by omega
  have ip0 : ¬ ((p : Int) < 0) := by omega
  have ipN : (p : Int) < (N : Int) := by omega
  have ipN' : ¬ ((N : Int) ≤ (p : Int)) := by omega
  clear h hx hl hR hPt hRl hxl hN h70 hp hO
  go_enter Try.func11, Try.ntmps11
  go_wp2_with fail
  obtain ⟨w1, hw1, k1, b1, s1⟩ := alloc_cb w 24 (bvs O)
  refine (yknown_any _).mono ?_
  rintro e w2 ⟨rfl, b2⟩
  change Below (w.alloc (.cells (bvs O).toArray 24)).heap.size (w.alloc (.cells (bvs O).toArray 24)) w2 at b2
  rw [← hw1] at b2
  have BB := Lib.hid (b1.tr b2)
  have KO := Lib.hid (k1.fresh b2)
  clear hw1 k1 b1 s1 b2
  go_wp2_with fail
  refine (CR.out w2 (H.out.fresh BB.out)).mono ?_
  rintro e w3 ⟨rfl, b3⟩
  replace BB := Lib.hid (BB.out.tr b3)
  replace KO := Lib.hid (KO.out.fresh b3)
  clear b3
  go_wp2_with (with_reducible refine stopStore 24 ?_)
  refine Stop.go ?_
  refine wpList_store_var rfl 24 (.tmp 9) (.tmp 29) rfl w3.heap.size _ rfl _ (bvs R) rfl (heap_alloc_new w3 _) (by simp [HL.out.1]) (bvs_one _) (by rw [bvs_length, HL.out.1]; exact infoHash) ?_
  intro w4 kw4 ow4
  have bw4 : Below w3.heap.size w3 w4 := Below.only ((Below.refl _ w3).alloc (Nat.le_refl _) _) ow4 (Nat.le_refl _)
  replace kw4 : CB w4 24 w3.heap.size (bvs R) := kw4
  clear ow4
  obtain ⟨G9, hG9⟩ : ∃ G, G = w3.heap.size := ⟨_, rfl⟩
  rw [← hG9] at kw4 ⊢
  have KR := Lib.hid kw4
  replace BB := Lib.hid (BB.out.tr bw4)
  replace KO := Lib.hid (KO.out.fresh bw4)
  clear kw4 bw4 hG9
  go_wp2_with fail
  refine (CP.out w4 (H.out.fresh BB.out)).mono ?_
  rintro e w5 ⟨v5, rfl, p5, b5⟩
  obtain ⟨a5, k5, rfl⟩ := p5.slice
  obtain ⟨q5, hq5⟩ : ∃ q, q = Pt.length := ⟨_, rfl⟩
  rw [← hq5] at p5 ⊢
  have PV := Lib.hid p5
  replace BB := Lib.hid (BB.out.tr b5)
  replace KO := Lib.hid (KO.out.fresh b5)
  replace KR := Lib.hid (KR.out.fresh b5)
  clear p5 hq5 b5
  go_wp2_with (with_reducible refine stopStore 92 ?_)
  refine Stop.go ?_
  obtain ⟨G10, hG⟩ : ∃ G, G = w5.heap.size := ⟨_, rfl⟩
  rw [← hG]
  refine wpList_store_var rfl 92 (.tmp 10) (.tmp 34) rfl G10 _ rfl _ [.int .i64 (p : Int), .int .i64 (N : Int), .slice a5 q5 k5] rfl (by rw [hG]; exact heap_alloc_new w5 _) (by simp) (by intro u hu; simp at hu; rcases hu with rfl | rfl | rfl <;> rfl) (by exact infoPath) ?_
  intro w6 k6 o6
  have b6 : Below w5.heap.size w5 w6 := Below.only ((Below.refl _ w5).alloc (Nat.le_refl _) _) o6 (by omega)
  have k6' : CB w6 92 G10 [.int .i64 (p : Int), .int .i64 (N : Int), .slice a5 q5 k5] := k6
  have hk6 : Hid (MK w w6 G9 G10 O R p N (.slice (some ad) N c0) l (.slice a5 q5 k5) Pt) := Lib.hid ⟨BB.out.tr b6, KO.out.fresh b6, KR.out.fresh b6, k6', H.out.fresh (BB.out.tr b6), PV.out.fresh b6⟩
  clear k6 k6' o6 b6 hG BB KO KR PV
  have C0 := Lib.hid (fun w0 (h0 : Hs w0 (.slice a5 q5 k5) Pt) => mcheck_any w0 R x (p : Int) (N : Int) (.slice a5 q5 k5) Pt HL.out.1 HX.out.2 h0)
  rw [F0.out] at C0
  go_wp2_with fail
  refine pl_start 14 rfl (fun w' => MK w w' G9 G10 O R p N (.slice (some ad) N c0) l (.slice a5 q5 k5) Pt) (by kernel_rfl) ?_
  obtain ⟨wz, hw0⟩ : ∃ w0, w0 = World.drew w6 := ⟨_, rfl⟩
  rw [← hw0]
  have hS := Lib.hid (MK.fresh hk6.out (show Below (World.heap w6).size w6 wz from by rw [hw0]; exact (Below.refl _ w6).drew))
  clear hw0
  refine pl_take (i := 0) 36 rfl rfl rfl (by kernel_rfl) (by kernel_rfl) (by kernel_rfl) (by simp [Act.put]) hS.out ?_
  apply Exists.intro
  refine And.intro (fun w' hS' => ?_) ?_
  · go_wp2
    first
      | exact ⟨trivial, rfl⟩
      | exact rfl
  refine pl_heavy (i := 1) rfl (by kernel_rfl) ?_
  go_wp2_with fail
  refine (ynum_any _ _).mono ?_
  rintro e wz ⟨rfl, rfl⟩
  go_wp2
  refine And.intro hS.out ?_
  refine pl_take (i := 2) 38 rfl rfl rfl (by kernel_rfl) (by kernel_rfl) (by kernel_rfl) (by simp [Act.put]) hS.out ?_
  apply Exists.intro
  refine And.intro (fun w' hS' => ?_) ?_
  · go_wp2
    first
      | exact ⟨trivial, rfl⟩
      | exact rfl
  refine pl_take (i := 3) 39 rfl rfl rfl (by kernel_rfl) (by kernel_rfl) (by kernel_rfl) (by simp [Act.put]) hS.out ?_
  apply Exists.intro
  refine And.intro (fun w' hS' => ?_) ?_
  · go_wp2
    first
      | exact ⟨trivial, rfl⟩
      | exact rfl
  refine pl_take (i := 4) 40 rfl rfl rfl (by kernel_rfl) (by kernel_rfl) (by kernel_rfl) (by simp [Act.put]) hS.out ?_
  apply Exists.intro
  refine And.intro (fun w' hS' => ?_) ?_
  · refine wpList_unguard' rfl ?_
    refine wpList_load_agg rfl 24 (.tmp 9) rfl (⟨G9, 0, none⟩) rfl (bvs R) _ ((At.block hS'.2.2.1).load) Try.underlying24 rfl (by rw [bvs_length, HL.out.1]; exact infoHash) ?_
    clear hS'
    go_wp2
    exact ⟨trivial, rfl⟩
  refine pl_take (i := 5) 41 rfl rfl rfl (by kernel_rfl) (by kernel_rfl) (by kernel_rfl) (by simp [Act.put]) hS.out ?_
  apply Exists.intro
  refine And.intro (fun w' hS' => ?_) ?_
  · refine wpList_unguard' rfl ?_
    clear hS'
    go_wp2
    first
      | exact ⟨trivial, rfl⟩
      | exact rfl
  refine pl_take (i := 6) 42 rfl rfl rfl (by kernel_rfl) (by kernel_rfl) (by kernel_rfl) (by simp [Act.put]) hS.out ?_
  apply Exists.intro
  refine And.intro (fun w' hS' => ?_) ?_
  · refine wpList_unguard' rfl ?_
    clear hS'
    go_wp2
    first
      | exact ⟨trivial, rfl⟩
      | exact rfl
  refine pl_take (i := 7) 43 rfl rfl rfl (by kernel_rfl) (by kernel_rfl) (by kernel_rfl) (by simp [Act.put]) hS.out ?_
  apply Exists.intro
  refine And.intro (fun w' hS' => ?_) ?_
  · refine wpList_unguard' rfl ?_
    clear hS'
    go_wp2
    first
      | exact ⟨trivial, rfl⟩
      | exact rfl
  refine pl_take (i := 8) 44 rfl rfl rfl (by kernel_rfl) (by kernel_rfl) (by kernel_rfl) (by simp [Act.put]) hS.out ?_
  apply Exists.intro
  refine And.intro (fun w' hS' => ?_) ?_
  · refine wpList_unguard' rfl ?_
    refine wpList_load_agg rfl 24 (.tmp 43) rfl (ad.add (p * 32)) rfl (bvs x) _ (hS'.2.2.2.2.1.elem' HX.out.1) Try.underlying24 rfl (by rw [bvs_length, HX.out.2]; exact infoHash) ?_
    clear hS'
    go_wp2
    exact ⟨trivial, rfl⟩
  refine pl_take (i := 9) 45 rfl rfl rfl (by kernel_rfl) (by kernel_rfl) (by kernel_rfl) (by simp [Act.put]) hS.out ?_
  apply Exists.intro
  refine And.intro (fun w' hS' => ?_) ?_
  · refine wpList_unguard' rfl ?_
    refine wpList_load_agg rfl 92 (.tmp 10) rfl ⟨G10, 0, none⟩ rfl [.int .i64 (p : Int), .int .i64 (N : Int), .slice a5 q5 k5] _ (At.block hS'.2.2.2.1).load Try.underlying92 rfl (by exact infoPath) ?_
    clear hS'
    go_wp2
    exact ⟨trivial, rfl⟩
  refine pl_heavy (i := 10) rfl (by kernel_rfl) ?_
  refine wpList_unguard' rfl ?_
  go_wp2_with fail
  refine (C0.out wz hS.out.2.2.2.2.2).mono ?_
  rintro e wy ⟨rfl, bk⟩
  replace hS := Lib.hid (MK.fresh hS.out bk)
  clear bk
  go_wp2
  refine And.intro hS.out ?_
  refine pl_heavy (i := 11) rfl (by kernel_rfl) ?_
  refine wpList_unguard' rfl ?_
  go_wp2_with fail
  refine (ynum_any _ _).mono ?_
  rintro e wc ⟨rfl, rfl⟩
  go_wp2
  refine And.intro hS.out ?_
  refine pl_take (i := 12) 48 rfl rfl rfl (by kernel_rfl) (by kernel_rfl) (by kernel_rfl) (by simp [Act.put]) hS.out ?_
  apply Exists.intro
  refine And.intro (fun w' hS' => ?_) ?_
  · refine wpList_unguard' rfl ?_
    clear hS'
    go_wp2
    first
      | exact ⟨trivial, rfl⟩
      | exact rfl
  refine pl_take (i := 13) 49 rfl rfl rfl (by kernel_rfl) (by kernel_rfl) (by kernel_rfl) (by simp [Act.put]) hS.out ?_
  apply Exists.intro
  refine And.intro (fun w' hS' => ?_) ?_
  · go_wp2
    first
      | exact ⟨trivial, rfl⟩
      | exact rfl
  refine pl_done (by kernel_rfl) ?_
  have hk := hS
  clear hS hk6 C0
  go_wp2_with fail
  go_cut [70] (fun s70 wx => s70 = .bool false ∧ MK w wx G9 G10 O R p N (.slice (some ad) N c0) l (.slice a5 q5 k5) Pt)
  case first =>
    by_cases hOx : O = x
    · have QO : Hid ((O != x) = false) := Lib.hid (by rw [hOx]; simp)
      clear hOx
      refine pl_start 21 rfl (fun w' => MK w w' G9 G10 O R p N (.slice (some ad) N c0) l (.slice a5 q5 k5) Pt) (by kernel_rfl) ?_
      obtain ⟨wz, hw0⟩ : ∃ w0, w0 = World.drew wc := ⟨_, rfl⟩
      rw [← hw0]
      have hS := Lib.hid (MK.fresh hk.out (show Below (World.heap wc).size wc wz from by rw [hw0]; exact (Below.refl _ wc).drew))
      clear hw0
      refine pl_take (i := 0) 50 rfl rfl rfl (by kernel_rfl) (by kernel_rfl) (by kernel_rfl) (by simp [Act.put]) hS.out ?_
      apply Exists.intro
      refine And.intro (fun w' hS' => ?_) ?_
      · refine wpList_load_agg rfl 24 (.tmp 6) rfl (⟨w.heap.size, 0, none⟩) rfl (bvs O) _ ((At.block hS'.2.1).load) Try.underlying24 rfl (by rw [bvs_length, HL.out.2.1]; exact infoHash) ?_
        clear hS'
        go_wp2
        exact ⟨trivial, rfl⟩
      refine pl_take (i := 1) 51 rfl rfl rfl (by kernel_rfl) (by kernel_rfl) (by kernel_rfl) (by simp [Act.put]) hS.out ?_
      apply Exists.intro
      refine And.intro (fun w' hS' => ?_) ?_
      · go_wp2
        first
          | exact ⟨trivial, rfl⟩
          | exact rfl
      refine pl_take (i := 2) 52 rfl rfl rfl (by kernel_rfl) (by kernel_rfl) (by kernel_rfl) (by simp [Act.put]) hS.out ?_
      apply Exists.intro
      refine And.intro (fun w' hS' => ?_) ?_
      · go_wp2
        first
          | exact ⟨trivial, rfl⟩
          | exact rfl
      refine pl_take (i := 3) 53 rfl rfl rfl (by kernel_rfl) (by kernel_rfl) (by kernel_rfl) (by simp [Act.put]) hS.out ?_
      apply Exists.intro
      refine And.intro (fun w' hS' => ?_) ?_
      · go_wp2
        first
          | exact ⟨trivial, rfl⟩
          | exact rfl
      refine pl_take (i := 4) 54 rfl rfl rfl (by kernel_rfl) (by kernel_rfl) (by kernel_rfl) (by simp [Act.put]) hS.out ?_
      apply Exists.intro
      refine And.intro (fun w' hS' => ?_) ?_
      · refine wpList_load_agg rfl 24 (.tmp 53) rfl (ad.add (p * 32)) rfl (bvs x) _ (hS'.2.2.2.2.1.elem' HX.out.1) Try.underlying24 rfl (by rw [bvs_length, HX.out.2]; exact infoHash) ?_
        clear hS'
        go_wp2
        exact ⟨trivial, rfl⟩
      refine pl_take (i := 5) 55 rfl rfl rfl (by kernel_rfl) (by kernel_rfl) (by kernel_rfl) (by simp [Act.put]) hS.out ?_
      apply Exists.intro
      refine And.intro (fun w' hS' => ?_) ?_
      · refine wpList_bin rfl .neq 24 24 (.tmp 50) (.tmp 54) rfl (.bool false) (eqGuard_agg _ _ _ _ _ _ _ (by kernel_rfl)) ((hash_ne w' O x HL.out.2.1 HX.out.2).trans (by rw [QO.out])) ?_
        clear hS'
        go_wp2
        exact ⟨trivial, rfl⟩
      refine pl_take (i := 6) 56 rfl rfl rfl (by kernel_rfl) (by kernel_rfl) (by kernel_rfl) (by simp [Act.put]) hS.out ?_
      apply Exists.intro
      refine And.intro (fun w' hS' => ?_) ?_
      · go_wp2
        first
          | exact ⟨trivial, rfl⟩
          | exact rfl
      refine pl_skip (i := 7) rfl (by kernel_rfl) (by kernel_rfl) (by kernel_rfl) (by kernel_rfl) hS.out ?_
      apply Exists.intro
      refine And.intro (by simp [Act.put, go_sem]; rfl) ?_
      refine pl_skip (i := 8) rfl (by kernel_rfl) (by kernel_rfl) (by kernel_rfl) (by kernel_rfl) hS.out ?_
      apply Exists.intro
      refine And.intro (by simp [Act.put, go_sem]; rfl) ?_
      refine pl_skip (i := 9) rfl (by kernel_rfl) (by kernel_rfl) (by kernel_rfl) (by kernel_rfl) hS.out ?_
      apply Exists.intro
      refine And.intro (by simp [Act.put, go_sem]; rfl) ?_
      refine pl_skip (i := 10) rfl (by kernel_rfl) (by kernel_rfl) (by kernel_rfl) (by kernel_rfl) hS.out ?_
      apply Exists.intro
      refine And.intro (by simp [Act.put, go_sem]; rfl) ?_
      refine pl_skip (i := 11) rfl (by kernel_rfl) (by kernel_rfl) (by kernel_rfl) (by kernel_rfl) hS.out ?_
      apply Exists.intro
      refine And.intro (by simp [Act.put, go_sem]; rfl) ?_
      refine pl_skip (i := 12) rfl (by kernel_rfl) (by kernel_rfl) (by kernel_rfl) (by kernel_rfl) hS.out ?_
      apply Exists.intro
      refine And.intro (by simp [Act.put, go_sem]; rfl) ?_
      refine pl_take (i := 13) 63 rfl rfl rfl (by kernel_rfl) (by kernel_rfl) (by kernel_rfl) (by simp [Act.put]) hS.out ?_
      apply Exists.intro
      refine And.intro (fun w' hS' => ?_) ?_
      · go_wp2
        first
          | exact ⟨trivial, rfl⟩
          | exact rfl
      refine pl_take (i := 14) 64 rfl rfl rfl (by kernel_rfl) (by kernel_rfl) (by kernel_rfl) (by simp [Act.put]) hS.out ?_
      apply Exists.intro
      refine And.intro (fun w' hS' => ?_) ?_
      · go_wp2
        first
          | exact ⟨trivial, rfl⟩
          | exact rfl
      refine pl_skip (i := 15) rfl (by kernel_rfl) (by kernel_rfl) (by kernel_rfl) (by kernel_rfl) hS.out ?_
      apply Exists.intro
      refine And.intro (by simp [Act.put, go_sem]; rfl) ?_
      refine pl_skip (i := 16) rfl (by kernel_rfl) (by kernel_rfl) (by kernel_rfl) (by kernel_rfl) hS.out ?_
      apply Exists.intro
      refine And.intro (by simp [Act.put, go_sem]; rfl) ?_
      refine pl_skip (i := 17) rfl (by kernel_rfl) (by kernel_rfl) (by kernel_rfl) (by kernel_rfl) hS.out ?_
      apply Exists.intro
      refine And.intro (by simp [Act.put, go_sem]; rfl) ?_
      refine pl_skip (i := 18) rfl (by kernel_rfl) (by kernel_rfl) (by kernel_rfl) (by kernel_rfl) hS.out ?_
      apply Exists.intro
      refine And.intro (by simp [Act.put, go_sem]; rfl) ?_
      refine pl_skip (i := 19) rfl (by kernel_rfl) (by kernel_rfl) (by kernel_rfl) (by kernel_rfl) hS.out ?_
      apply Exists.intro
      refine And.intro (by simp [Act.put, go_sem]; rfl) ?_
      refine pl_take (i := 20) 70 rfl rfl rfl (by kernel_rfl) (by kernel_rfl) (by kernel_rfl) (by simp [Act.put]) hS.out ?_
      apply Exists.intro
      refine And.intro (fun w' hS' => ?_) ?_
      · go_wp2
        first
          | exact ⟨trivial, rfl⟩
          | exact rfl
      refine pl_done (by kernel_rfl) ?_
      go_wp2
      go_meet
      case rel => exact ⟨rfl, hS.out⟩
    · have QO : Hid ((O != x) = true) := Lib.hid (by simpa using hOx)
      have C1 := Lib.hid (fun w0 (h0 : Hs w0 (.slice a5 q5 k5) Pt) => mcheck_any w0 R O (p : Int) (N : Int) (.slice a5 q5 k5) Pt HL.out.1 HL.out.2.1 h0)
      rcases checkE_or R O (p : Int) (N : Int) Pt with h0 | h0
      · have T1 := Lib.hid (fun w0 (h0 : Hs w0 (.slice a5 q5 k5) Pt) (h1 : Hs w0 (.slice (some ad) N c0) l) => ytold_any w0 (.slice a5 q5 k5) (.slice (some ad) N c0) O (p : Int) (N : Int) Pt l HL.out.2.1 h0 h1 HL.out.2.2.1)
        rw [F1.out hOx h0] at T1
        rw [h0] at C1
        clear hOx h0
        refine pl_start 21 rfl (fun w' => MK w w' G9 G10 O R p N (.slice (some ad) N c0) l (.slice a5 q5 k5) Pt) (by kernel_rfl) ?_
        obtain ⟨wz, hw0⟩ : ∃ w0, w0 = World.drew wc := ⟨_, rfl⟩
        rw [← hw0]
        have hS := Lib.hid (MK.fresh hk.out (show Below (World.heap wc).size wc wz from by rw [hw0]; exact (Below.refl _ wc).drew))
        clear hw0
        refine pl_take (i := 0) 50 rfl rfl rfl (by kernel_rfl) (by kernel_rfl) (by kernel_rfl) (by simp [Act.put]) hS.out ?_
        apply Exists.intro
        refine And.intro (fun w' hS' => ?_) ?_
        · refine wpList_load_agg rfl 24 (.tmp 6) rfl (⟨w.heap.size, 0, none⟩) rfl (bvs O) _ ((At.block hS'.2.1).load) Try.underlying24 rfl (by rw [bvs_length, HL.out.2.1]; exact infoHash) ?_
          clear hS'
          go_wp2
          exact ⟨trivial, rfl⟩
        refine pl_take (i := 1) 51 rfl rfl rfl (by kernel_rfl) (by kernel_rfl) (by kernel_rfl) (by simp [Act.put]) hS.out ?_
        apply Exists.intro
        refine And.intro (fun w' hS' => ?_) ?_
        · go_wp2
          first
            | exact ⟨trivial, rfl⟩
            | exact rfl
        refine pl_take (i := 2) 52 rfl rfl rfl (by kernel_rfl) (by kernel_rfl) (by kernel_rfl) (by simp [Act.put]) hS.out ?_
        apply Exists.intro
        refine And.intro (fun w' hS' => ?_) ?_
        · go_wp2
          first
            | exact ⟨trivial, rfl⟩
            | exact rfl
        refine pl_take (i := 3) 53 rfl rfl rfl (by kernel_rfl) (by kernel_rfl) (by kernel_rfl) (by simp [Act.put]) hS.out ?_
        apply Exists.intro
        refine And.intro (fun w' hS' => ?_) ?_
        · go_wp2
          first
            | exact ⟨trivial, rfl⟩
            | exact rfl
        refine pl_take (i := 4) 54 rfl rfl rfl (by kernel_rfl) (by kernel_rfl) (by kernel_rfl) (by simp [Act.put]) hS.out ?_
        apply Exists.intro
        refine And.intro (fun w' hS' => ?_) ?_
        · refine wpList_load_agg rfl 24 (.tmp 53) rfl (ad.add (p * 32)) rfl (bvs x) _ (hS'.2.2.2.2.1.elem' HX.out.1) Try.underlying24 rfl (by rw [bvs_length, HX.out.2]; exact infoHash) ?_
          clear hS'
          go_wp2
          exact ⟨trivial, rfl⟩
        refine pl_take (i := 5) 55 rfl rfl rfl (by kernel_rfl) (by kernel_rfl) (by kernel_rfl) (by simp [Act.put]) hS.out ?_
        apply Exists.intro
        refine And.intro (fun w' hS' => ?_) ?_
        · refine wpList_bin rfl .neq 24 24 (.tmp 50) (.tmp 54) rfl (.bool true) (eqGuard_agg _ _ _ _ _ _ _ (by kernel_rfl)) ((hash_ne w' O x HL.out.2.1 HX.out.2).trans (by rw [QO.out])) ?_
          clear hS'
          go_wp2
          exact ⟨trivial, rfl⟩
        refine pl_take (i := 6) 56 rfl rfl rfl (by kernel_rfl) (by kernel_rfl) (by kernel_rfl) (by simp [Act.put]) hS.out ?_
        apply Exists.intro
        refine And.intro (fun w' hS' => ?_) ?_
        · go_wp2
          first
            | exact ⟨trivial, rfl⟩
            | exact rfl
        refine pl_take (i := 7) 57 rfl rfl rfl (by kernel_rfl) (by kernel_rfl) (by kernel_rfl) (by simp [Act.put]) hS.out ?_
        apply Exists.intro
        refine And.intro (fun w' hS' => ?_) ?_
        · refine wpList_unguard' rfl ?_
          refine wpList_load_agg rfl 24 (.tmp 9) rfl (⟨G9, 0, none⟩) rfl (bvs R) _ ((At.block hS'.2.2.1).load) Try.underlying24 rfl (by rw [bvs_length, HL.out.1]; exact infoHash) ?_
          clear hS'
          go_wp2
          exact ⟨trivial, rfl⟩
        refine pl_take (i := 8) 58 rfl rfl rfl (by kernel_rfl) (by kernel_rfl) (by kernel_rfl) (by simp [Act.put]) hS.out ?_
        apply Exists.intro
        refine And.intro (fun w' hS' => ?_) ?_
        · refine wpList_unguard' rfl ?_
          refine wpList_load_agg rfl 24 (.tmp 6) rfl (⟨w.heap.size, 0, none⟩) rfl (bvs O) _ ((At.block hS'.2.1).load) Try.underlying24 rfl (by rw [bvs_length, HL.out.2.1]; exact infoHash) ?_
          clear hS'
          go_wp2
          exact ⟨trivial, rfl⟩
        refine pl_take (i := 9) 59 rfl rfl rfl (by kernel_rfl) (by kernel_rfl) (by kernel_rfl) (by simp [Act.put]) hS.out ?_
        apply Exists.intro
        refine And.intro (fun w' hS' => ?_) ?_
        · refine wpList_unguard' rfl ?_
          refine wpList_load_agg rfl 92 (.tmp 10) rfl ⟨G10, 0, none⟩ rfl [.int .i64 (p : Int), .int .i64 (N : Int), .slice a5 q5 k5] _ (At.block hS'.2.2.2.1).load Try.underlying92 rfl (by exact infoPath) ?_
          clear hS'
          go_wp2
          exact ⟨trivial, rfl⟩
        refine pl_heavy (i := 10) rfl (by kernel_rfl) ?_
        refine wpList_unguard' rfl ?_
        go_wp2_with fail
        refine (C1.out wz hS.out.2.2.2.2.2).mono ?_
        rintro e wy ⟨rfl, bk⟩
        replace hS := Lib.hid (MK.fresh hS.out bk)
        clear bk
        go_wp2
        refine And.intro hS.out ?_
        refine pl_heavy (i := 11) rfl (by kernel_rfl) ?_
        refine wpList_unguard' rfl ?_
        go_wp2_with fail
        refine (ynum_any _ _).mono ?_
        rintro e wz ⟨rfl, rfl⟩
        go_wp2
        refine And.intro hS.out ?_
        refine pl_take (i := 12) 62 rfl rfl rfl (by kernel_rfl) (by kernel_rfl) (by kernel_rfl) (by simp [Act.put]) hS.out ?_
        apply Exists.intro
        refine And.intro (fun w' hS' => ?_) ?_
        · refine wpList_unguard' rfl ?_
          clear hS'
          go_wp2
          first
            | exact ⟨trivial, rfl⟩
            | exact rfl
        refine pl_take (i := 13) 63 rfl rfl rfl (by kernel_rfl) (by kernel_rfl) (by kernel_rfl) (by simp [Act.put]) hS.out ?_
        apply Exists.intro
        refine And.intro (fun w' hS' => ?_) ?_
        · go_wp2
          first
            | exact ⟨trivial, rfl⟩
            | exact rfl
        refine pl_take (i := 14) 64 rfl rfl rfl (by kernel_rfl) (by kernel_rfl) (by kernel_rfl) (by simp [Act.put]) hS.out ?_
        apply Exists.intro
        refine And.intro (fun w' hS' => ?_) ?_
        · go_wp2
          first
            | exact ⟨trivial, rfl⟩
            | exact rfl
        refine pl_take (i := 15) 65 rfl rfl rfl (by kernel_rfl) (by kernel_rfl) (by kernel_rfl) (by simp [Act.put]) hS.out ?_
        apply Exists.intro
        refine And.intro (fun w' hS' => ?_) ?_
        · refine wpList_unguard' rfl ?_
          refine wpList_load_agg rfl 24 (.tmp 6) rfl (⟨w.heap.size, 0, none⟩) rfl (bvs O) _ ((At.block hS'.2.1).load) Try.underlying24 rfl (by rw [bvs_length, HL.out.2.1]; exact infoHash) ?_
          clear hS'
          go_wp2
          exact ⟨trivial, rfl⟩
        refine pl_take (i := 16) 66 rfl rfl rfl (by kernel_rfl) (by kernel_rfl) (by kernel_rfl) (by simp [Act.put]) hS.out ?_
        apply Exists.intro
        refine And.intro (fun w' hS' => ?_) ?_
        · refine wpList_unguard' rfl ?_
          refine wpList_load_agg rfl 92 (.tmp 10) rfl ⟨G10, 0, none⟩ rfl [.int .i64 (p : Int), .int .i64 (N : Int), .slice a5 q5 k5] _ (At.block hS'.2.2.2.1).load Try.underlying92 rfl (by exact infoPath) ?_
          clear hS'
          go_wp2
          exact ⟨trivial, rfl⟩
        refine pl_take (i := 17) 67 rfl rfl rfl (by kernel_rfl) (by kernel_rfl) (by kernel_rfl) (by simp [Act.put]) hS.out ?_
        apply Exists.intro
        refine And.intro (fun w' hS' => ?_) ?_
        · refine wpList_unguard' rfl ?_
          clear hS'
          go_wp2
          first
            | exact ⟨trivial, rfl⟩
            | exact rfl
        refine pl_heavy (i := 18) rfl (by kernel_rfl) ?_
        refine wpList_unguard' rfl ?_
        go_wp2_with fail
        refine (T1.out wz hS.out.2.2.2.2.2 hS.out.2.2.2.2.1).mono ?_
        rintro e wy ⟨rfl, bk⟩
        replace hS := Lib.hid (MK.fresh hS.out bk)
        clear bk
        go_wp2
        refine And.intro hS.out ?_
        refine pl_take (i := 19) 69 rfl rfl rfl (by kernel_rfl) (by kernel_rfl) (by kernel_rfl) (by simp [Act.put]) hS.out ?_
        apply Exists.intro
        refine And.intro (fun w' hS' => ?_) ?_
        · refine wpList_unguard' rfl ?_
          clear hS'
          go_wp2
          first
            | exact ⟨trivial, rfl⟩
            | exact rfl
        refine pl_take (i := 20) 70 rfl rfl rfl (by kernel_rfl) (by kernel_rfl) (by kernel_rfl) (by simp [Act.put]) hS.out ?_
        apply Exists.intro
        refine And.intro (fun w' hS' => ?_) ?_
        · go_wp2
          first
            | exact ⟨trivial, rfl⟩
            | exact rfl
        refine pl_done (by kernel_rfl) ?_
        go_wp2
        go_meet
        case rel => exact ⟨rfl, hS.out⟩
      · rw [h0] at C1
        clear hOx h0
        refine pl_start 21 rfl (fun w' => MK w w' G9 G10 O R p N (.slice (some ad) N c0) l (.slice a5 q5 k5) Pt) (by kernel_rfl) ?_
        obtain ⟨wz, hw0⟩ : ∃ w0, w0 = World.drew wc := ⟨_, rfl⟩
        rw [← hw0]
        have hS := Lib.hid (MK.fresh hk.out (show Below (World.heap wc).size wc wz from by rw [hw0]; exact (Below.refl _ wc).drew))
        clear hw0
        refine pl_take (i := 0) 50 rfl rfl rfl (by kernel_rfl) (by kernel_rfl) (by kernel_rfl) (by simp [Act.put]) hS.out ?_
        apply Exists.intro
        refine And.intro (fun w' hS' => ?_) ?_
        · refine wpList_load_agg rfl 24 (.tmp 6) rfl (⟨w.heap.size, 0, none⟩) rfl (bvs O) _ ((At.block hS'.2.1).load) Try.underlying24 rfl (by rw [bvs_length, HL.out.2.1]; exact infoHash) ?_
          clear hS'
          go_wp2
          exact ⟨trivial, rfl⟩
        refine pl_take (i := 1) 51 rfl rfl rfl (by kernel_rfl) (by kernel_rfl) (by kernel_rfl) (by simp [Act.put]) hS.out ?_
        apply Exists.intro
        refine And.intro (fun w' hS' => ?_) ?_
        · go_wp2
          first
            | exact ⟨trivial, rfl⟩
            | exact rfl
        refine pl_take (i := 2) 52 rfl rfl rfl (by kernel_rfl) (by kernel_rfl) (by kernel_rfl) (by simp [Act.put]) hS.out ?_
        apply Exists.intro
        refine And.intro (fun w' hS' => ?_) ?_
        · go_wp2
          first
            | exact ⟨trivial, rfl⟩
            | exact rfl
        refine pl_take (i := 3) 53 rfl rfl rfl (by kernel_rfl) (by kernel_rfl) (by kernel_rfl) (by simp [Act.put]) hS.out ?_
        apply Exists.intro
        refine And.intro (fun w' hS' => ?_) ?_
        · go_wp2
          first
            | exact ⟨trivial, rfl⟩
            | exact rfl
        refine pl_take (i := 4) 54 rfl rfl rfl (by kernel_rfl) (by kernel_rfl) (by kernel_rfl) (by simp [Act.put]) hS.out ?_
        apply Exists.intro
        refine And.intro (fun w' hS' => ?_) ?_
        · refine wpList_load_agg rfl 24 (.tmp 53) rfl (ad.add (p * 32)) rfl (bvs x) _ (hS'.2.2.2.2.1.elem' HX.out.1) Try.underlying24 rfl (by rw [bvs_length, HX.out.2]; exact infoHash) ?_
          clear hS'
          go_wp2
          exact ⟨trivial, rfl⟩
        refine pl_take (i := 5) 55 rfl rfl rfl (by kernel_rfl) (by kernel_rfl) (by kernel_rfl) (by simp [Act.put]) hS.out ?_
        apply Exists.intro
        refine And.intro (fun w' hS' => ?_) ?_
        · refine wpList_bin rfl .neq 24 24 (.tmp 50) (.tmp 54) rfl (.bool true) (eqGuard_agg _ _ _ _ _ _ _ (by kernel_rfl)) ((hash_ne w' O x HL.out.2.1 HX.out.2).trans (by rw [QO.out])) ?_
          clear hS'
          go_wp2
          exact ⟨trivial, rfl⟩
        refine pl_take (i := 6) 56 rfl rfl rfl (by kernel_rfl) (by kernel_rfl) (by kernel_rfl) (by simp [Act.put]) hS.out ?_
        apply Exists.intro
        refine And.intro (fun w' hS' => ?_) ?_
        · go_wp2
          first
            | exact ⟨trivial, rfl⟩
            | exact rfl
        refine pl_take (i := 7) 57 rfl rfl rfl (by kernel_rfl) (by kernel_rfl) (by kernel_rfl) (by simp [Act.put]) hS.out ?_
        apply Exists.intro
        refine And.intro (fun w' hS' => ?_) ?_
        · refine wpList_unguard' rfl ?_
          refine wpList_load_agg rfl 24 (.tmp 9) rfl (⟨G9, 0, none⟩) rfl (bvs R) _ ((At.block hS'.2.2.1).load) Try.underlying24 rfl (by rw [bvs_length, HL.out.1]; exact infoHash) ?_
          clear hS'
          go_wp2
          exact ⟨trivial, rfl⟩
        refine pl_take (i := 8) 58 rfl rfl rfl (by kernel_rfl) (by kernel_rfl) (by kernel_rfl) (by simp [Act.put]) hS.out ?_
        apply Exists.intro
        refine And.intro (fun w' hS' => ?_) ?_
        · refine wpList_unguard' rfl ?_
          refine wpList_load_agg rfl 24 (.tmp 6) rfl (⟨w.heap.size, 0, none⟩) rfl (bvs O) _ ((At.block hS'.2.1).load) Try.underlying24 rfl (by rw [bvs_length, HL.out.2.1]; exact infoHash) ?_
          clear hS'
          go_wp2
          exact ⟨trivial, rfl⟩
        refine pl_take (i := 9) 59 rfl rfl rfl (by kernel_rfl) (by kernel_rfl) (by kernel_rfl) (by simp [Act.put]) hS.out ?_
        apply Exists.intro
        refine And.intro (fun w' hS' => ?_) ?_
        · refine wpList_unguard' rfl ?_
          refine wpList_load_agg rfl 92 (.tmp 10) rfl ⟨G10, 0, none⟩ rfl [.int .i64 (p : Int), .int .i64 (N : Int), .slice a5 q5 k5] _ (At.block hS'.2.2.2.1).load Try.underlying92 rfl (by exact infoPath) ?_
          clear hS'
          go_wp2
          exact ⟨trivial, rfl⟩
        refine pl_heavy (i := 10) rfl (by kernel_rfl) ?_
        refine wpList_unguard' rfl ?_
        go_wp2_with fail
        refine (C1.out wz hS.out.2.2.2.2.2).mono ?_
        rintro e wy ⟨rfl, bk⟩
        replace hS := Lib.hid (MK.fresh hS.out bk)
        clear bk
        go_wp2
        refine And.intro hS.out ?_
        refine pl_heavy (i := 11) rfl (by kernel_rfl) ?_
        refine wpList_unguard' rfl ?_
        go_wp2_with fail
        refine (ynum_any _ _).mono ?_
        rintro e wz ⟨rfl, rfl⟩
        go_wp2
        refine And.intro hS.out ?_
        refine pl_take (i := 12) 62 rfl rfl rfl (by kernel_rfl) (by kernel_rfl) (by kernel_rfl) (by simp [Act.put]) hS.out ?_
        apply Exists.intro
        refine And.intro (fun w' hS' => ?_) ?_
        · refine wpList_unguard' rfl ?_
          clear hS'
          go_wp2
          first
            | exact ⟨trivial, rfl⟩
            | exact rfl
        refine pl_take (i := 13) 63 rfl rfl rfl (by kernel_rfl) (by kernel_rfl) (by kernel_rfl) (by simp [Act.put]) hS.out ?_
        apply Exists.intro
        refine And.intro (fun w' hS' => ?_) ?_
        · go_wp2
          first
            | exact ⟨trivial, rfl⟩
            | exact rfl
        refine pl_take (i := 14) 64 rfl rfl rfl (by kernel_rfl) (by kernel_rfl) (by kernel_rfl) (by simp [Act.put]) hS.out ?_
        apply Exists.intro
        refine And.intro (fun w' hS' => ?_) ?_
        · go_wp2
          first
            | exact ⟨trivial, rfl⟩
            | exact rfl
        refine pl_skip (i := 15) rfl (by kernel_rfl) (by kernel_rfl) (by kernel_rfl) (by kernel_rfl) hS.out ?_
        apply Exists.intro
        refine And.intro (by simp [Act.put, go_sem]; rfl) ?_
        refine pl_skip (i := 16) rfl (by kernel_rfl) (by kernel_rfl) (by kernel_rfl) (by kernel_rfl) hS.out ?_
        apply Exists.intro
        refine And.intro (by simp [Act.put, go_sem]; rfl) ?_
        refine pl_skip (i := 17) rfl (by kernel_rfl) (by kernel_rfl) (by kernel_rfl) (by kernel_rfl) hS.out ?_
        apply Exists.intro
        refine And.intro (by simp [Act.put, go_sem]; rfl) ?_
        refine pl_skip (i := 18) rfl (by kernel_rfl) (by kernel_rfl) (by kernel_rfl) (by kernel_rfl) hS.out ?_
        apply Exists.intro
        refine And.intro (by simp [Act.put, go_sem]; rfl) ?_
        refine pl_skip (i := 19) rfl (by kernel_rfl) (by kernel_rfl) (by kernel_rfl) (by kernel_rfl) hS.out ?_
        apply Exists.intro
        refine And.intro (by simp [Act.put, go_sem]; rfl) ?_
        refine pl_take (i := 20) 70 rfl rfl rfl (by kernel_rfl) (by kernel_rfl) (by kernel_rfl) (by simp [Act.put]) hS.out ?_
        apply Exists.intro
        refine And.intro (fun w' hS' => ?_) ?_
        · go_wp2
          first
            | exact ⟨trivial, rfl⟩
            | exact rfl
        refine pl_done (by kernel_rfl) ?_
        go_wp2
        go_meet
        case rel => exact ⟨rfl, hS.out⟩
  case rest =>
    obtain ⟨rfl, hk0⟩ := hcut
    have hk := Lib.hid hk0
    clear hk0
    go_wp2_with fail
    go_cut [84] (fun s84 wx => s84 = .bool false ∧ MK w wx G9 G10 O R p N (.slice (some ad) N c0) l (.slice a5 q5 k5) Pt)
    case first =>
      by_cases hRO : R = O
      · have QO : Hid ((R != O) = false) := Lib.hid (by rw [hRO]; simp)
        clear hRO
        refine pl_start 14 rfl (fun w' => MK w w' G9 G10 O R p N (.slice (some ad) N c0) l (.slice a5 q5 k5) Pt) (by kernel_rfl) ?_
        obtain ⟨wz, hw0⟩ : ∃ w0, w0 = World.drew wc := ⟨_, rfl⟩
        rw [← hw0]
        have hS := Lib.hid (MK.fresh hk.out (show Below (World.heap wc).size wc wz from by rw [hw0]; exact (Below.refl _ wc).drew))
        clear hw0
        refine pl_take (i := 0) 71 rfl rfl rfl (by kernel_rfl) (by kernel_rfl) (by kernel_rfl) (by simp [Act.put]) hS.out ?_
        apply Exists.intro
        refine And.intro (fun w' hS' => ?_) ?_
        · refine wpList_load_agg rfl 24 (.tmp 9) rfl (⟨G9, 0, none⟩) rfl (bvs R) _ ((At.block hS'.2.2.1).load) Try.underlying24 rfl (by rw [bvs_length, HL.out.1]; exact infoHash) ?_
          clear hS'
          go_wp2
          exact ⟨trivial, rfl⟩
        refine pl_take (i := 1) 72 rfl rfl rfl (by kernel_rfl) (by kernel_rfl) (by kernel_rfl) (by simp [Act.put]) hS.out ?_
        apply Exists.intro
        refine And.intro (fun w' hS' => ?_) ?_
        · refine wpList_load_agg rfl 24 (.tmp 6) rfl (⟨w.heap.size, 0, none⟩) rfl (bvs O) _ ((At.block hS'.2.1).load) Try.underlying24 rfl (by rw [bvs_length, HL.out.2.1]; exact infoHash) ?_
          clear hS'
          go_wp2
          exact ⟨trivial, rfl⟩
        refine pl_take (i := 2) 73 rfl rfl rfl (by kernel_rfl) (by kernel_rfl) (by kernel_rfl) (by simp [Act.put]) hS.out ?_
        apply Exists.intro
        refine And.intro (fun w' hS' => ?_) ?_
        · refine wpList_bin rfl .neq 24 24 (.tmp 71) (.tmp 72) rfl (.bool false) (eqGuard_agg _ _ _ _ _ _ _ (by kernel_rfl)) ((hash_ne w' R O HL.out.1 HL.out.2.1).trans (by rw [QO.out])) ?_
          clear hS'
          go_wp2
          exact ⟨trivial, rfl⟩
        refine pl_take (i := 3) 74 rfl rfl rfl (by kernel_rfl) (by kernel_rfl) (by kernel_rfl) (by simp [Act.put]) hS.out ?_
        apply Exists.intro
        refine And.intro (fun w' hS' => ?_) ?_
        · go_wp2
          first
            | exact ⟨trivial, rfl⟩
            | exact rfl
        refine pl_skip (i := 4) rfl (by kernel_rfl) (by kernel_rfl) (by kernel_rfl) (by kernel_rfl) hS.out ?_
        apply Exists.intro
        refine And.intro (by simp [Act.put, go_sem]; rfl) ?_
        refine pl_skip (i := 5) rfl (by kernel_rfl) (by kernel_rfl) (by kernel_rfl) (by kernel_rfl) hS.out ?_
        apply Exists.intro
        refine And.intro (by simp [Act.put, go_sem]; rfl) ?_
        refine pl_skip (i := 6) rfl (by kernel_rfl) (by kernel_rfl) (by kernel_rfl) (by kernel_rfl) hS.out ?_
        apply Exists.intro
        refine And.intro (by simp [Act.put, go_sem]; rfl) ?_
        refine pl_skip (i := 7) rfl (by kernel_rfl) (by kernel_rfl) (by kernel_rfl) (by kernel_rfl) hS.out ?_
        apply Exists.intro
        refine And.intro (by simp [Act.put, go_sem]; rfl) ?_
        refine pl_skip (i := 8) rfl (by kernel_rfl) (by kernel_rfl) (by kernel_rfl) (by kernel_rfl) hS.out ?_
        apply Exists.intro
        refine And.intro (by simp [Act.put, go_sem]; rfl) ?_
        refine pl_skip (i := 9) rfl (by kernel_rfl) (by kernel_rfl) (by kernel_rfl) (by kernel_rfl) hS.out ?_
        apply Exists.intro
        refine And.intro (by simp [Act.put, go_sem]; rfl) ?_
        refine pl_skip (i := 10) rfl (by kernel_rfl) (by kernel_rfl) (by kernel_rfl) (by kernel_rfl) hS.out ?_
        apply Exists.intro
        refine And.intro (by simp [Act.put, go_sem]; rfl) ?_
        refine pl_skip (i := 11) rfl (by kernel_rfl) (by kernel_rfl) (by kernel_rfl) (by kernel_rfl) hS.out ?_
        apply Exists.intro
        refine And.intro (by simp [Act.put, go_sem]; rfl) ?_
        refine pl_skip (i := 12) rfl (by kernel_rfl) (by kernel_rfl) (by kernel_rfl) (by kernel_rfl) hS.out ?_
        apply Exists.intro
        refine And.intro (by simp [Act.put, go_sem]; rfl) ?_
        refine pl_take (i := 13) 84 rfl rfl rfl (by kernel_rfl) (by kernel_rfl) (by kernel_rfl) (by simp [Act.put]) hS.out ?_
        apply Exists.intro
        refine And.intro (fun w' hS' => ?_) ?_
        · go_wp2
          first
            | exact ⟨trivial, rfl⟩
            | exact rfl
        refine pl_done (by kernel_rfl) ?_
        go_wp2
        go_meet
        case rel => exact ⟨rfl, hS.out⟩
      · have QO : Hid ((R != O) = true) := Lib.hid (by simpa using hRO)
        have C3 := Lib.hid (fun w0 (h0 : Hs w0 (.slice a5 q5 k5) Pt) => mcheck_any w0 O x (p : Int) (N : Int) (.slice a5 q5 k5) Pt HL.out.2.1 HX.out.2 h0)
        rw [F2.out hRO] at C3
        clear hRO
        refine pl_start 14 rfl (fun w' => MK w w' G9 G10 O R p N (.slice (some ad) N c0) l (.slice a5 q5 k5) Pt) (by kernel_rfl) ?_
        obtain ⟨wz, hw0⟩ : ∃ w0, w0 = World.drew wc := ⟨_, rfl⟩
        rw [← hw0]
        have hS := Lib.hid (MK.fresh hk.out (show Below (World.heap wc).size wc wz from by rw [hw0]; exact (Below.refl _ wc).drew))
        clear hw0
        refine pl_take (i := 0) 71 rfl rfl rfl (by kernel_rfl) (by kernel_rfl) (by kernel_rfl) (by simp [Act.put]) hS.out ?_
        apply Exists.intro
        refine And.intro (fun w' hS' => ?_) ?_
        · refine wpList_load_agg rfl 24 (.tmp 9) rfl (⟨G9, 0, none⟩) rfl (bvs R) _ ((At.block hS'.2.2.1).load) Try.underlying24 rfl (by rw [bvs_length, HL.out.1]; exact infoHash) ?_
          clear hS'
          go_wp2
          exact ⟨trivial, rfl⟩
        refine pl_take (i := 1) 72 rfl rfl rfl (by kernel_rfl) (by kernel_rfl) (by kernel_rfl) (by simp [Act.put]) hS.out ?_
        apply Exists.intro
        refine And.intro (fun w' hS' => ?_) ?_
        · refine wpList_load_agg rfl 24 (.tmp 6) rfl (⟨w.heap.size, 0, none⟩) rfl (bvs O) _ ((At.block hS'.2.1).load) Try.underlying24 rfl (by rw [bvs_length, HL.out.2.1]; exact infoHash) ?_
          clear hS'
          go_wp2
          exact ⟨trivial, rfl⟩
        refine pl_take (i := 2) 73 rfl rfl rfl (by kernel_rfl) (by kernel_rfl) (by kernel_rfl) (by simp [Act.put]) hS.out ?_
        apply Exists.intro
        refine And.intro (fun w' hS' => ?_) ?_
        · refine wpList_bin rfl .neq 24 24 (.tmp 71) (.tmp 72) rfl (.bool true) (eqGuard_agg _ _ _ _ _ _ _ (by kernel_rfl)) ((hash_ne w' R O HL.out.1 HL.out.2.1).trans (by rw [QO.out])) ?_
          clear hS'
          go_wp2
          exact ⟨trivial, rfl⟩
        refine pl_take (i := 3) 74 rfl rfl rfl (by kernel_rfl) (by kernel_rfl) (by kernel_rfl) (by simp [Act.put]) hS.out ?_
        apply Exists.intro
        refine And.intro (fun w' hS' => ?_) ?_
        · go_wp2
          first
            | exact ⟨trivial, rfl⟩
            | exact rfl
        refine pl_take (i := 4) 75 rfl rfl rfl (by kernel_rfl) (by kernel_rfl) (by kernel_rfl) (by simp [Act.put]) hS.out ?_
        apply Exists.intro
        refine And.intro (fun w' hS' => ?_) ?_
        · refine wpList_unguard' rfl ?_
          refine wpList_load_agg rfl 24 (.tmp 6) rfl (⟨w.heap.size, 0, none⟩) rfl (bvs O) _ ((At.block hS'.2.1).load) Try.underlying24 rfl (by rw [bvs_length, HL.out.2.1]; exact infoHash) ?_
          clear hS'
          go_wp2
          exact ⟨trivial, rfl⟩
        refine pl_take (i := 5) 76 rfl rfl rfl (by kernel_rfl) (by kernel_rfl) (by kernel_rfl) (by simp [Act.put]) hS.out ?_
        apply Exists.intro
        refine And.intro (fun w' hS' => ?_) ?_
        · refine wpList_unguard' rfl ?_
          clear hS'
          go_wp2
          first
            | exact ⟨trivial, rfl⟩
            | exact rfl
        refine pl_take (i := 6) 77 rfl rfl rfl (by kernel_rfl) (by kernel_rfl) (by kernel_rfl) (by simp [Act.put]) hS.out ?_
        apply Exists.intro
        refine And.intro (fun w' hS' => ?_) ?_
        · refine wpList_unguard' rfl ?_
          clear hS'
          go_wp2
          first
            | exact ⟨trivial, rfl⟩
            | exact rfl
        refine pl_take (i := 7) 78 rfl rfl rfl (by kernel_rfl) (by kernel_rfl) (by kernel_rfl) (by simp [Act.put]) hS.out ?_
        apply Exists.intro
        refine And.intro (fun w' hS' => ?_) ?_
        · refine wpList_unguard' rfl ?_
          clear hS'
          go_wp2
          first
            | exact ⟨trivial, rfl⟩
            | exact rfl
        refine pl_take (i := 8) 79 rfl rfl rfl (by kernel_rfl) (by kernel_rfl) (by kernel_rfl) (by simp [Act.put]) hS.out ?_
        apply Exists.intro
        refine And.intro (fun w' hS' => ?_) ?_
        · refine wpList_unguard' rfl ?_
          refine wpList_load_agg rfl 24 (.tmp 78) rfl (ad.add (p * 32)) rfl (bvs x) _ (hS'.2.2.2.2.1.elem' HX.out.1) Try.underlying24 rfl (by rw [bvs_length, HX.out.2]; exact infoHash) ?_
          clear hS'
          go_wp2
          exact ⟨trivial, rfl⟩
        refine pl_take (i := 9) 80 rfl rfl rfl (by kernel_rfl) (by kernel_rfl) (by kernel_rfl) (by simp [Act.put]) hS.out ?_
        apply Exists.intro
        refine And.intro (fun w' hS' => ?_) ?_
        · refine wpList_unguard' rfl ?_
          refine wpList_load_agg rfl 92 (.tmp 10) rfl ⟨G10, 0, none⟩ rfl [.int .i64 (p : Int), .int .i64 (N : Int), .slice a5 q5 k5] _ (At.block hS'.2.2.2.1).load Try.underlying92 rfl (by exact infoPath) ?_
          clear hS'
          go_wp2
          exact ⟨trivial, rfl⟩
        refine pl_heavy (i := 10) rfl (by kernel_rfl) ?_
        refine wpList_unguard' rfl ?_
        go_wp2_with fail
        refine (C3.out wz hS.out.2.2.2.2.2).mono ?_
        rintro e wy ⟨rfl, bk⟩
        replace hS := Lib.hid (MK.fresh hS.out bk)
        clear bk
        go_wp2
        refine And.intro hS.out ?_
        refine pl_heavy (i := 11) rfl (by kernel_rfl) ?_
        refine wpList_unguard' rfl ?_
        go_wp2_with fail
        refine (ynum_any _ _).mono ?_
        rintro e wz ⟨rfl, rfl⟩
        go_wp2
        refine And.intro hS.out ?_
        refine pl_take (i := 12) 83 rfl rfl rfl (by kernel_rfl) (by kernel_rfl) (by kernel_rfl) (by simp [Act.put]) hS.out ?_
        apply Exists.intro
        refine And.intro (fun w' hS' => ?_) ?_
        · refine wpList_unguard' rfl ?_
          clear hS'
          go_wp2
          first
            | exact ⟨trivial, rfl⟩
            | exact rfl
        refine pl_take (i := 13) 84 rfl rfl rfl (by kernel_rfl) (by kernel_rfl) (by kernel_rfl) (by simp [Act.put]) hS.out ?_
        apply Exists.intro
        refine And.intro (fun w' hS' => ?_) ?_
        · go_wp2
          first
            | exact ⟨trivial, rfl⟩
            | exact rfl
        refine pl_done (by kernel_rfl) ?_
        go_wp2
        go_meet
        case rel => exact ⟨rfl, hS.out⟩
    case rest =>
      obtain ⟨rfl, hk0⟩ := hcut
      have hk := Lib.hid hk0
      have hc1 := hk0.2.2.2.1.cell 1 _ rfl
      have hc2 := hk0.2.2.2.1.cell 2 _ rfl
      clear hk0
      go_wp2_with (with_reducible refine stopStore 92 ?_)
      refine Stop.go ?_
      clear hc1 hc2
      obtain ⟨G12, hG⟩ : ∃ G, G = wc.heap.size := ⟨_, rfl⟩
      rw [← hG]
      refine wpList_store_var rfl 92 (.tmp 12) (.tmp 90) rfl G12 _ rfl _ [.int .i64 q, .int .i64 (N : Int), .slice a5 q5 k5] rfl (by rw [hG]; exact heap_alloc_new wc _) (by simp) (by intro u hu; simp at hu; rcases hu with rfl | rfl | rfl <;> rfl) (by exact infoPath) ?_
      intro w6 k6 o6
      have b6 : Below wc.heap.size wc w6 := Below.only ((Below.refl _ wc).alloc (Nat.le_refl _) _) o6 (by omega)
      have k6' : CB w6 92 G12 [.int .i64 q, .int .i64 (N : Int), .slice a5 q5 k5] := k6
      have hk6 := Lib.hid (MK.fresh hk.out b6)
      have hq6 := Lib.hid k6'
      clear k6 k6' o6 b6 hG hk
      go_wp2_with fail
      rw [show ∀ a : Act, a.put none undef = a from fun _ => rfl]
      go_cut [120] (fun s120 wx => ∃ B, s120 = .bool B ∧ (B = false → ∃ (z : Nat) (y : Bs), q = (z : Int) ∧ z < N ∧ collB l x q (N : Int) Pt = true) ∧ MK w wx G9 G10 O R p N (.slice (some ad) N c0) l (.slice a5 q5 k5) Pt ∧ CB wx 92 G12 [.int .i64 q, .int .i64 (N : Int), .slice a5 q5 k5])
      case first =>
        by_cases hq0 : q < 0
        · have Q1 : Hid (decide (q < 0) = true) := Lib.hid (decide_eq_true hq0)
          clear hq0
          refine pl_start 30 rfl (fun w' => MK w w' G9 G10 O R p N (.slice (some ad) N c0) l (.slice a5 q5 k5) Pt ∧ CB w' 92 G12 [.int .i64 q, .int .i64 (N : Int), .slice a5 q5 k5]) (by kernel_rfl) ?_
          obtain ⟨wz, hw0⟩ : ∃ w0, w0 = World.drew w6 := ⟨_, rfl⟩
          rw [← hw0]
          have hS := Lib.hid (And.intro (MK.fresh hk6.out (show Below (World.heap w6).size w6 wz from by rw [hw0]; exact (Below.refl _ w6).drew)) (CB.fresh hq6.out (show Below (World.heap w6).size w6 wz from by rw [hw0]; exact (Below.refl _ w6).drew)))
          clear hw0
          refine pl_take (i := 0) 91 rfl rfl rfl (by kernel_rfl) (by kernel_rfl) (by kernel_rfl) (by simp [Act.put]) hS.out ?_
          apply Exists.intro
          refine And.intro (fun w' hS' => ?_) ?_
          · go_wp2
            first
              | exact ⟨trivial, rfl⟩
              | exact rfl
          refine pl_take (i := 1) 92 rfl rfl rfl (by kernel_rfl) (by kernel_rfl) (by kernel_rfl) (by simp [Act.put]) hS.out ?_
          apply Exists.intro
          refine And.intro (fun w' hS' => ?_) ?_
          · go_wp2
            first
              | exact ⟨trivial, rfl⟩
              | exact rfl
          try rw [Q1.out]
          try rw [N1.out]
          refine pl_take (i := 2) 93 rfl rfl rfl (by kernel_rfl) (by kernel_rfl) (by kernel_rfl) (by simp [Act.put]) hS.out ?_
          apply Exists.intro
          refine And.intro (fun w' hS' => ?_) ?_
          · go_wp2
            first
              | exact ⟨trivial, rfl⟩
              | exact rfl
          refine pl_skip (i := 3) rfl (by kernel_rfl) (by kernel_rfl) (by kernel_rfl) (by kernel_rfl) hS.out ?_
          apply Exists.intro
          refine And.intro (by simp [Act.put, go_sem]; rfl) ?_
          refine pl_skip (i := 4) rfl (by kernel_rfl) (by kernel_rfl) (by kernel_rfl) (by kernel_rfl) hS.out ?_
          apply Exists.intro
          refine And.intro (by simp [Act.put, go_sem]; rfl) ?_
          refine pl_skip (i := 5) rfl (by kernel_rfl) (by kernel_rfl) (by kernel_rfl) (by kernel_rfl) hS.out ?_
          apply Exists.intro
          refine And.intro (by simp [Act.put, go_sem]; rfl) ?_
          refine pl_skip (i := 6) rfl (by kernel_rfl) (by kernel_rfl) (by kernel_rfl) (by kernel_rfl) hS.out ?_
          apply Exists.intro
          refine And.intro (by simp [Act.put, go_sem]; rfl) ?_
          refine pl_take (i := 7) 98 rfl rfl rfl (by kernel_rfl) (by kernel_rfl) (by kernel_rfl) (by simp [Act.put]) hS.out ?_
          apply Exists.intro
          refine And.intro (fun w' hS' => ?_) ?_
          · go_wp2
            first
              | exact ⟨trivial, rfl⟩
              | exact rfl
          refine pl_take (i := 8) 99 rfl rfl rfl (by kernel_rfl) (by kernel_rfl) (by kernel_rfl) (by simp [Act.put]) hS.out ?_
          apply Exists.intro
          refine And.intro (fun w' hS' => ?_) ?_
          · go_wp2
            first
              | exact ⟨trivial, rfl⟩
              | exact rfl
          refine pl_skip (i := 9) rfl (by kernel_rfl) (by kernel_rfl) (by kernel_rfl) (by kernel_rfl) hS.out ?_
          apply Exists.intro
          refine And.intro (by simp [Act.put, go_sem]; rfl) ?_
          refine pl_skip (i := 10) rfl (by kernel_rfl) (by kernel_rfl) (by kernel_rfl) (by kernel_rfl) hS.out ?_
          apply Exists.intro
          refine And.intro (by simp [Act.put, go_sem]; rfl) ?_
          refine pl_skip (i := 11) rfl (by kernel_rfl) (by kernel_rfl) (by kernel_rfl) (by kernel_rfl) hS.out ?_
          apply Exists.intro
          refine And.intro (by simp [Act.put, go_sem]; rfl) ?_
          refine pl_skip (i := 12) rfl (by kernel_rfl) (by kernel_rfl) (by kernel_rfl) (by kernel_rfl) hS.out ?_
          apply Exists.intro
          refine And.intro (by simp [Act.put, go_sem]; rfl) ?_
          refine pl_skip (i := 13) rfl (by kernel_rfl) (by kernel_rfl) (by kernel_rfl) (by kernel_rfl) hS.out ?_
          apply Exists.intro
          refine And.intro (by simp [Act.put, go_sem]; rfl) ?_
          refine pl_skip (i := 14) rfl (by kernel_rfl) (by kernel_rfl) (by kernel_rfl) (by kernel_rfl) hS.out ?_
          apply Exists.intro
          refine And.intro (by simp [Act.put, go_sem]; rfl) ?_
          refine pl_skip (i := 15) rfl (by kernel_rfl) (by kernel_rfl) (by kernel_rfl) (by kernel_rfl) hS.out ?_
          apply Exists.intro
          refine And.intro (by simp [Act.put, go_sem]; rfl) ?_
          refine pl_skip (i := 16) rfl (by kernel_rfl) (by kernel_rfl) (by kernel_rfl) (by kernel_rfl) hS.out ?_
          apply Exists.intro
          refine And.intro (by simp [Act.put, go_sem]; rfl) ?_
          refine pl_skip (i := 17) rfl (by kernel_rfl) (by kernel_rfl) (by kernel_rfl) (by kernel_rfl) hS.out ?_
          apply Exists.intro
          refine And.intro (by simp [Act.put, go_sem]; rfl) ?_
          refine pl_take (i := 18) 109 rfl rfl rfl (by kernel_rfl) (by kernel_rfl) (by kernel_rfl) (by simp [Act.put]) hS.out ?_
          apply Exists.intro
          refine And.intro (fun w' hS' => ?_) ?_
          · go_wp2
            first
              | exact ⟨trivial, rfl⟩
              | exact rfl
          refine pl_take (i := 19) 110 rfl rfl rfl (by kernel_rfl) (by kernel_rfl) (by kernel_rfl) (by simp [Act.put]) hS.out ?_
          apply Exists.intro
          refine And.intro (fun w' hS' => ?_) ?_
          · go_wp2
            first
              | exact ⟨trivial, rfl⟩
              | exact rfl
          refine pl_skip (i := 20) rfl (by kernel_rfl) (by kernel_rfl) (by kernel_rfl) (by kernel_rfl) hS.out ?_
          apply Exists.intro
          refine And.intro (by simp [Act.put, go_sem]; rfl) ?_
          refine pl_skip (i := 21) rfl (by kernel_rfl) (by kernel_rfl) (by kernel_rfl) (by kernel_rfl) hS.out ?_
          apply Exists.intro
          refine And.intro (by simp [Act.put, go_sem]; rfl) ?_
          refine pl_skip (i := 22) rfl (by kernel_rfl) (by kernel_rfl) (by kernel_rfl) (by kernel_rfl) hS.out ?_
          apply Exists.intro
          refine And.intro (by simp [Act.put, go_sem]; rfl) ?_
          refine pl_skip (i := 23) rfl (by kernel_rfl) (by kernel_rfl) (by kernel_rfl) (by kernel_rfl) hS.out ?_
          apply Exists.intro
          refine And.intro (by simp [Act.put, go_sem]; rfl) ?_
          refine pl_skip (i := 24) rfl (by kernel_rfl) (by kernel_rfl) (by kernel_rfl) (by kernel_rfl) hS.out ?_
          apply Exists.intro
          refine And.intro (by simp [Act.put, go_sem]; rfl) ?_
          refine pl_skip (i := 25) rfl (by kernel_rfl) (by kernel_rfl) (by kernel_rfl) (by kernel_rfl) hS.out ?_
          apply Exists.intro
          refine And.intro (by simp [Act.put, go_sem]; rfl) ?_
          refine pl_skip (i := 26) rfl (by kernel_rfl) (by kernel_rfl) (by kernel_rfl) (by kernel_rfl) hS.out ?_
          apply Exists.intro
          refine And.intro (by simp [Act.put, go_sem]; rfl) ?_
          refine pl_skip (i := 27) rfl (by kernel_rfl) (by kernel_rfl) (by kernel_rfl) (by kernel_rfl) hS.out ?_
          apply Exists.intro
          refine And.intro (by simp [Act.put, go_sem]; rfl) ?_
          refine pl_skip (i := 28) rfl (by kernel_rfl) (by kernel_rfl) (by kernel_rfl) (by kernel_rfl) hS.out ?_
          apply Exists.intro
          refine And.intro (by simp [Act.put, go_sem]; rfl) ?_
          refine pl_take (i := 29) 120 rfl rfl rfl (by kernel_rfl) (by kernel_rfl) (by kernel_rfl) (by simp [Act.put]) hS.out ?_
          apply Exists.intro
          refine And.intro (fun w' hS' => ?_) ?_
          · go_wp2
            first
              | exact ⟨trivial, rfl⟩
              | exact rfl
          refine pl_done (by kernel_rfl) ?_
          go_wp2
          go_meet
          case rel => exact ⟨true, rfl, (fun e => by cases e), hS.out.1, hS.out.2⟩
        · obtain ⟨z, rfl⟩ := Int.eq_ofNat_of_zero_le (show 0 ≤ q by omega)
          have Q1 : Hid (decide ((z : Int) < 0) = false) := Lib.hid (decide_eq_false (by omega))
          clear hq0
          by_cases hzN : z < N
          · obtain ⟨y, hy⟩ : ∃ y, l[z]? = some y := ⟨_, List.getElem?_eq_getElem (by rw [← HL.out.2.2.2]; exact hzN)⟩
            have HY := Lib.hid (And.intro hy (H.out.1.get hy))
            have Q2 : Hid (decide ((N : Int) ≤ (z : Int)) = false) := Lib.hid (decide_eq_false (by omega))
            have N2 : Hid (decide (N ≤ z) = false) := Lib.hid (decide_eq_false (by omega))
            have iz : (z : Int) < (N : Int) := by omega
            have HZ := Lib.hid hzN
            clear hy hzN
            cases hyx : (y == x)
            · have QX := Lib.hid hyx
              clear hyx
              have C4 := Lib.hid (fun w0 (h0 : Hs w0 (.slice a5 q5 k5) Pt) => mcheck_any w0 R x (z : Int) (N : Int) (.slice a5 q5 k5) Pt HL.out.1 HX.out.2 h0)
              rcases checkE_or R x (z : Int) (N : Int) Pt with h0 | h0
              · have HT := Lib.hid (F3.out z y HY.out.1 (by have := QX.out; simpa using this) h0)
                rw [h0] at C4
                clear h0
                refine pl_start 30 rfl (fun w' => MK w w' G9 G10 O R p N (.slice (some ad) N c0) l (.slice a5 q5 k5) Pt ∧ CB w' 92 G12 [.int .i64 (z : Int), .int .i64 (N : Int), .slice a5 q5 k5]) (by kernel_rfl) ?_
                obtain ⟨wz, hw0⟩ : ∃ w0, w0 = World.drew w6 := ⟨_, rfl⟩
                rw [← hw0]
                have hS := Lib.hid (And.intro (MK.fresh hk6.out (show Below (World.heap w6).size w6 wz from by rw [hw0]; exact (Below.refl _ w6).drew)) (CB.fresh hq6.out (show Below (World.heap w6).size w6 wz from by rw [hw0]; exact (Below.refl _ w6).drew)))
                clear hw0
                refine pl_take (i := 0) 91 rfl rfl rfl (by kernel_rfl) (by kernel_rfl) (by kernel_rfl) (by simp [Act.put]) hS.out ?_
                apply Exists.intro
                refine And.intro (fun w' hS' => ?_) ?_
                · go_wp2
                  first
                    | exact ⟨trivial, rfl⟩
                    | exact rfl
                refine pl_take (i := 1) 92 rfl rfl rfl (by kernel_rfl) (by kernel_rfl) (by kernel_rfl) (by simp [Act.put]) hS.out ?_
                apply Exists.intro
                refine And.intro (fun w' hS' => ?_) ?_
                · go_wp2
                  first
                    | exact ⟨trivial, rfl⟩
                    | exact rfl
                try rw [Q1.out]
                try rw [N1.out]
                refine pl_take (i := 2) 93 rfl rfl rfl (by kernel_rfl) (by kernel_rfl) (by kernel_rfl) (by simp [Act.put]) hS.out ?_
                apply Exists.intro
                refine And.intro (fun w' hS' => ?_) ?_
                · go_wp2
                  first
                    | exact ⟨trivial, rfl⟩
                    | exact rfl
                refine pl_take (i := 3) 94 rfl rfl rfl (by kernel_rfl) (by kernel_rfl) (by kernel_rfl) (by simp [Act.put]) hS.out ?_
                apply Exists.intro
                refine And.intro (fun w' hS' => ?_) ?_
                · refine wpList_unguard' rfl ?_
                  clear hS'
                  go_wp2
                  first
                    | exact ⟨trivial, rfl⟩
                    | exact rfl
                refine pl_take (i := 4) 95 rfl rfl rfl (by kernel_rfl) (by kernel_rfl) (by kernel_rfl) (by simp [Act.put]) hS.out ?_
                apply Exists.intro
                refine And.intro (fun w' hS' => ?_) ?_
                · refine wpList_unguard' rfl ?_
                  clear hS'
                  go_wp2
                  first
                    | exact ⟨trivial, rfl⟩
                    | exact rfl
                refine pl_take (i := 5) 96 rfl rfl rfl (by kernel_rfl) (by kernel_rfl) (by kernel_rfl) (by simp [Act.put]) hS.out ?_
                apply Exists.intro
                refine And.intro (fun w' hS' => ?_) ?_
                · refine wpList_unguard' rfl ?_
                  clear hS'
                  go_wp2
                  first
                    | exact ⟨trivial, rfl⟩
                    | exact rfl
                refine pl_take (i := 6) 97 rfl rfl rfl (by kernel_rfl) (by kernel_rfl) (by kernel_rfl) (by simp [Act.put]) hS.out ?_
                apply Exists.intro
                refine And.intro (fun w' hS' => ?_) ?_
                · refine wpList_unguard' rfl ?_
                  clear hS'
                  go_wp2
                  first
                    | exact ⟨trivial, rfl⟩
                    | exact rfl
                try rw [Q2.out]
                try rw [N2.out]
                refine pl_take (i := 7) 98 rfl rfl rfl (by kernel_rfl) (by kernel_rfl) (by kernel_rfl) (by simp [Act.put]) hS.out ?_
                apply Exists.intro
                refine And.intro (fun w' hS' => ?_) ?_
                · go_wp2
                  first
                    | exact ⟨trivial, rfl⟩
                    | exact rfl
                refine pl_take (i := 8) 99 rfl rfl rfl (by kernel_rfl) (by kernel_rfl) (by kernel_rfl) (by simp [Act.put]) hS.out ?_
                apply Exists.intro
                refine And.intro (fun w' hS' => ?_) ?_
                · go_wp2
                  first
                    | exact ⟨trivial, rfl⟩
                    | exact rfl
                refine pl_take (i := 9) 100 rfl rfl rfl (by kernel_rfl) (by kernel_rfl) (by kernel_rfl) (by simp [Act.put]) hS.out ?_
                apply Exists.intro
                refine And.intro (fun w' hS' => ?_) ?_
                · refine wpList_unguard' rfl ?_
                  clear hS'
                  go_wp2
                  first
                    | exact ⟨trivial, rfl⟩
                    | exact rfl
                refine pl_take (i := 10) 101 rfl rfl rfl (by kernel_rfl) (by kernel_rfl) (by kernel_rfl) (by simp [Act.put]) hS.out ?_
                apply Exists.intro
                refine And.intro (fun w' hS' => ?_) ?_
                · refine wpList_unguard' rfl ?_
                  clear hS'
                  go_wp2
                  first
                    | exact ⟨trivial, rfl⟩
                    | exact rfl
                refine pl_take (i := 11) 102 rfl rfl rfl (by kernel_rfl) (by kernel_rfl) (by kernel_rfl) (by simp [Act.put]) hS.out ?_
                apply Exists.intro
                refine And.intro (fun w' hS' => ?_) ?_
                · refine wpList_unguard' rfl ?_
                  clear hS'
                  go_wp2
                  first
                    | exact ⟨trivial, rfl⟩
                    | exact rfl
                refine pl_take (i := 12) 103 rfl rfl rfl (by kernel_rfl) (by kernel_rfl) (by kernel_rfl) (by simp [Act.put]) hS.out ?_
                apply Exists.intro
                refine And.intro (fun w' hS' => ?_) ?_
                · refine wpList_unguard' rfl ?_
                  refine wpList_load_agg rfl 24 (.tmp 102) rfl (ad.add (z * 32)) rfl (bvs y) _ (hS'.1.2.2.2.2.1.elem' HY.out.1) Try.underlying24 rfl (by rw [bvs_length, HY.out.2]; exact infoHash) ?_
                  clear hS'
                  go_wp2
                  exact ⟨trivial, rfl⟩
                refine pl_take (i := 13) 104 rfl rfl rfl (by kernel_rfl) (by kernel_rfl) (by kernel_rfl) (by simp [Act.put]) hS.out ?_
                apply Exists.intro
                refine And.intro (fun w' hS' => ?_) ?_
                · refine wpList_unguard' rfl ?_
                  clear hS'
                  go_wp2
                  first
                    | exact ⟨trivial, rfl⟩
                    | exact rfl
                refine pl_take (i := 14) 105 rfl rfl rfl (by kernel_rfl) (by kernel_rfl) (by kernel_rfl) (by simp [Act.put]) hS.out ?_
                apply Exists.intro
                refine And.intro (fun w' hS' => ?_) ?_
                · refine wpList_unguard' rfl ?_
                  clear hS'
                  go_wp2
                  first
                    | exact ⟨trivial, rfl⟩
                    | exact rfl
                refine pl_take (i := 15) 106 rfl rfl rfl (by kernel_rfl) (by kernel_rfl) (by kernel_rfl) (by simp [Act.put]) hS.out ?_
                apply Exists.intro
                refine And.intro (fun w' hS' => ?_) ?_
                · refine wpList_unguard' rfl ?_
                  clear hS'
                  go_wp2
                  first
                    | exact ⟨trivial, rfl⟩
                    | exact rfl
                refine pl_take (i := 16) 107 rfl rfl rfl (by kernel_rfl) (by kernel_rfl) (by kernel_rfl) (by simp [Act.put]) hS.out ?_
                apply Exists.intro
                refine And.intro (fun w' hS' => ?_) ?_
                · refine wpList_unguard' rfl ?_
                  refine wpList_load_agg rfl 24 (.tmp 106) rfl (ad.add (p * 32)) rfl (bvs x) _ (hS'.1.2.2.2.2.1.elem' HX.out.1) Try.underlying24 rfl (by rw [bvs_length, HX.out.2]; exact infoHash) ?_
                  clear hS'
                  go_wp2
                  exact ⟨trivial, rfl⟩
                refine pl_take (i := 17) 108 rfl rfl rfl (by kernel_rfl) (by kernel_rfl) (by kernel_rfl) (by simp [Act.put]) hS.out ?_
                apply Exists.intro
                refine And.intro (fun w' hS' => ?_) ?_
                · refine wpList_unguard' rfl ?_
                  refine wpList_bin rfl .eql 24 24 (.tmp 103) (.tmp 107) rfl (.bool false) (eqGuard_agg _ _ _ _ _ _ _ (by kernel_rfl)) ((hash_eq w' y x HY.out.2 HX.out.2).trans (by rw [QX.out])) ?_
                  clear hS'
                  go_wp2
                  exact ⟨trivial, rfl⟩
                refine pl_take (i := 18) 109 rfl rfl rfl (by kernel_rfl) (by kernel_rfl) (by kernel_rfl) (by simp [Act.put]) hS.out ?_
                apply Exists.intro
                refine And.intro (fun w' hS' => ?_) ?_
                · go_wp2
                  first
                    | exact ⟨trivial, rfl⟩
                    | exact rfl
                refine pl_take (i := 19) 110 rfl rfl rfl (by kernel_rfl) (by kernel_rfl) (by kernel_rfl) (by simp [Act.put]) hS.out ?_
                apply Exists.intro
                refine And.intro (fun w' hS' => ?_) ?_
                · go_wp2
                  first
                    | exact ⟨trivial, rfl⟩
                    | exact rfl
                refine pl_take (i := 20) 111 rfl rfl rfl (by kernel_rfl) (by kernel_rfl) (by kernel_rfl) (by simp [Act.put]) hS.out ?_
                apply Exists.intro
                refine And.intro (fun w' hS' => ?_) ?_
                · refine wpList_unguard' rfl ?_
                  refine wpList_load_agg rfl 24 (.tmp 9) rfl (⟨G9, 0, none⟩) rfl (bvs R) _ ((At.block hS'.1.2.2.1).load) Try.underlying24 rfl (by rw [bvs_length, HL.out.1]; exact infoHash) ?_
                  clear hS'
                  go_wp2
                  exact ⟨trivial, rfl⟩
                refine pl_take (i := 21) 112 rfl rfl rfl (by kernel_rfl) (by kernel_rfl) (by kernel_rfl) (by simp [Act.put]) hS.out ?_
                apply Exists.intro
                refine And.intro (fun w' hS' => ?_) ?_
                · refine wpList_unguard' rfl ?_
                  clear hS'
                  go_wp2
                  first
                    | exact ⟨trivial, rfl⟩
                    | exact rfl
                refine pl_take (i := 22) 113 rfl rfl rfl (by kernel_rfl) (by kernel_rfl) (by kernel_rfl) (by simp [Act.put]) hS.out ?_
                apply Exists.intro
                refine And.intro (fun w' hS' => ?_) ?_
                · refine wpList_unguard' rfl ?_
                  clear hS'
                  go_wp2
                  first
                    | exact ⟨trivial, rfl⟩
                    | exact rfl
                refine pl_take (i := 23) 114 rfl rfl rfl (by kernel_rfl) (by kernel_rfl) (by kernel_rfl) (by simp [Act.put]) hS.out ?_
                apply Exists.intro
                refine And.intro (fun w' hS' => ?_) ?_
                · refine wpList_unguard' rfl ?_
                  clear hS'
                  go_wp2
                  first
                    | exact ⟨trivial, rfl⟩
                    | exact rfl
                refine pl_take (i := 24) 115 rfl rfl rfl (by kernel_rfl) (by kernel_rfl) (by kernel_rfl) (by simp [Act.put]) hS.out ?_
                apply Exists.intro
                refine And.intro (fun w' hS' => ?_) ?_
                · refine wpList_unguard' rfl ?_
                  refine wpList_load_agg rfl 24 (.tmp 114) rfl (ad.add (p * 32)) rfl (bvs x) _ (hS'.1.2.2.2.2.1.elem' HX.out.1) Try.underlying24 rfl (by rw [bvs_length, HX.out.2]; exact infoHash) ?_
                  clear hS'
                  go_wp2
                  exact ⟨trivial, rfl⟩
                refine pl_take (i := 25) 116 rfl rfl rfl (by kernel_rfl) (by kernel_rfl) (by kernel_rfl) (by simp [Act.put]) hS.out ?_
                apply Exists.intro
                refine And.intro (fun w' hS' => ?_) ?_
                · refine wpList_unguard' rfl ?_
                  refine wpList_load_agg rfl 92 (.tmp 12) rfl ⟨G12, 0, none⟩ rfl [.int .i64 (z : Int), .int .i64 (N : Int), .slice a5 q5 k5] _ (At.block hS'.2).load Try.underlying92 rfl (by exact infoPath) ?_
                  clear hS'
                  go_wp2
                  exact ⟨trivial, rfl⟩
                refine pl_heavy (i := 26) rfl (by kernel_rfl) ?_
                refine wpList_unguard' rfl ?_
                go_wp2_with fail
                refine (C4.out wz hS.out.1.2.2.2.2.2).mono ?_
                rintro e wy ⟨rfl, bk⟩
                replace hS := Lib.hid (And.intro (MK.fresh hS.out.1 bk) (hS.out.2.fresh bk))
                clear bk
                go_wp2
                refine And.intro hS.out ?_
                refine pl_heavy (i := 27) rfl (by kernel_rfl) ?_
                refine wpList_unguard' rfl ?_
                go_wp2_with fail
                refine (ynum_any _ _).mono ?_
                rintro e wz ⟨rfl, rfl⟩
                go_wp2
                refine And.intro hS.out ?_
                refine pl_take (i := 28) 119 rfl rfl rfl (by kernel_rfl) (by kernel_rfl) (by kernel_rfl) (by simp [Act.put]) hS.out ?_
                apply Exists.intro
                refine And.intro (fun w' hS' => ?_) ?_
                · refine wpList_unguard' rfl ?_
                  clear hS'
                  go_wp2
                  first
                    | exact ⟨trivial, rfl⟩
                    | exact rfl
                refine pl_take (i := 29) 120 rfl rfl rfl (by kernel_rfl) (by kernel_rfl) (by kernel_rfl) (by simp [Act.put]) hS.out ?_
                apply Exists.intro
                refine And.intro (fun w' hS' => ?_) ?_
                · go_wp2
                  first
                    | exact ⟨trivial, rfl⟩
                    | exact rfl
                refine pl_done (by kernel_rfl) ?_
                go_wp2
                go_meet
                case rel => exact ⟨false, rfl, fun _ => ⟨z, y, rfl, HZ.out, HT.out⟩, hS.out.1, hS.out.2⟩
              · rw [h0] at C4
                clear h0
                refine pl_start 30 rfl (fun w' => MK w w' G9 G10 O R p N (.slice (some ad) N c0) l (.slice a5 q5 k5) Pt ∧ CB w' 92 G12 [.int .i64 (z : Int), .int .i64 (N : Int), .slice a5 q5 k5]) (by kernel_rfl) ?_
                obtain ⟨wz, hw0⟩ : ∃ w0, w0 = World.drew w6 := ⟨_, rfl⟩
                rw [← hw0]
                have hS := Lib.hid (And.intro (MK.fresh hk6.out (show Below (World.heap w6).size w6 wz from by rw [hw0]; exact (Below.refl _ w6).drew)) (CB.fresh hq6.out (show Below (World.heap w6).size w6 wz from by rw [hw0]; exact (Below.refl _ w6).drew)))
                clear hw0
                refine pl_take (i := 0) 91 rfl rfl rfl (by kernel_rfl) (by kernel_rfl) (by kernel_rfl) (by simp [Act.put]) hS.out ?_
                apply Exists.intro
                refine And.intro (fun w' hS' => ?_) ?_
                · go_wp2
                  first
                    | exact ⟨trivial, rfl⟩
                    | exact rfl
                refine pl_take (i := 1) 92 rfl rfl rfl (by kernel_rfl) (by kernel_rfl) (by kernel_rfl) (by simp [Act.put]) hS.out ?_
                apply Exists.intro
                refine And.intro (fun w' hS' => ?_) ?_
                · go_wp2
                  first
                    | exact ⟨trivial, rfl⟩
                    | exact rfl
                try rw [Q1.out]
                try rw [N1.out]
                refine pl_take (i := 2) 93 rfl rfl rfl (by kernel_rfl) (by kernel_rfl) (by kernel_rfl) (by simp [Act.put]) hS.out ?_
                apply Exists.intro
                refine And.intro (fun w' hS' => ?_) ?_
                · go_wp2
                  first
                    | exact ⟨trivial, rfl⟩
                    | exact rfl
                refine pl_take (i := 3) 94 rfl rfl rfl (by kernel_rfl) (by kernel_rfl) (by kernel_rfl) (by simp [Act.put]) hS.out ?_
                apply Exists.intro
                refine And.intro (fun w' hS' => ?_) ?_
                · refine wpList_unguard' rfl ?_
                  clear hS'
                  go_wp2
                  first
                    | exact ⟨trivial, rfl⟩
                    | exact rfl
                refine pl_take (i := 4) 95 rfl rfl rfl (by kernel_rfl) (by kernel_rfl) (by kernel_rfl) (by simp [Act.put]) hS.out ?_
                apply Exists.intro
                refine And.intro (fun w' hS' => ?_) ?_
                · refine wpList_unguard' rfl ?_
                  clear hS'
                  go_wp2
                  first
                    | exact ⟨trivial, rfl⟩
                    | exact rfl
                refine pl_take (i := 5) 96 rfl rfl rfl (by kernel_rfl) (by kernel_rfl) (by kernel_rfl) (by simp [Act.put]) hS.out ?_
                apply Exists.intro
                refine And.intro (fun w' hS' => ?_) ?_
                · refine wpList_unguard' rfl ?_
                  clear hS'
                  go_wp2
                  first
                    | exact ⟨trivial, rfl⟩
                    | exact rfl
                refine pl_take (i := 6) 97 rfl rfl rfl (by kernel_rfl) (by kernel_rfl) (by kernel_rfl) (by simp [Act.put]) hS.out ?_
                apply Exists.intro
                refine And.intro (fun w' hS' => ?_) ?_
                · refine wpList_unguard' rfl ?_
                  clear hS'
                  go_wp2
                  first
                    | exact ⟨trivial, rfl⟩
                    | exact rfl
                try rw [Q2.out]
                try rw [N2.out]
                refine pl_take (i := 7) 98 rfl rfl rfl (by kernel_rfl) (by kernel_rfl) (by kernel_rfl) (by simp [Act.put]) hS.out ?_
                apply Exists.intro
                refine And.intro (fun w' hS' => ?_) ?_
                · go_wp2
                  first
                    | exact ⟨trivial, rfl⟩
                    | exact rfl
                refine pl_take (i := 8) 99 rfl rfl rfl (by kernel_rfl) (by kernel_rfl) (by kernel_rfl) (by simp [Act.put]) hS.out ?_
                apply Exists.intro
                refine And.intro (fun w' hS' => ?_) ?_
                · go_wp2
                  first
                    | exact ⟨trivial, rfl⟩
                    | exact rfl
                refine pl_take (i := 9) 100 rfl rfl rfl (by kernel_rfl) (by kernel_rfl) (by kernel_rfl) (by simp [Act.put]) hS.out ?_
                apply Exists.intro
                refine And.intro (fun w' hS' => ?_) ?_
                · refine wpList_unguard' rfl ?_
                  clear hS'
                  go_wp2
                  first
                    | exact ⟨trivial, rfl⟩
                    | exact rfl
                refine pl_take (i := 10) 101 rfl rfl rfl (by kernel_rfl) (by kernel_rfl) (by kernel_rfl) (by simp [Act.put]) hS.out ?_
                apply Exists.intro
                refine And.intro (fun w' hS' => ?_) ?_
                · refine wpList_unguard' rfl ?_
                  clear hS'
                  go_wp2
                  first
                    | exact ⟨trivial, rfl⟩
                    | exact rfl
                refine pl_take (i := 11) 102 rfl rfl rfl (by kernel_rfl) (by kernel_rfl) (by kernel_rfl) (by simp [Act.put]) hS.out ?_
                apply Exists.intro
                refine And.intro (fun w' hS' => ?_) ?_
                · refine wpList_unguard' rfl ?_
                  clear hS'
                  go_wp2
                  first
                    | exact ⟨trivial, rfl⟩
                    | exact rfl
                refine pl_take (i := 12) 103 rfl rfl rfl (by kernel_rfl) (by kernel_rfl) (by kernel_rfl) (by simp [Act.put]) hS.out ?_
                apply Exists.intro
                refine And.intro (fun w' hS' => ?_) ?_
                · refine wpList_unguard' rfl ?_
                  refine wpList_load_agg rfl 24 (.tmp 102) rfl (ad.add (z * 32)) rfl (bvs y) _ (hS'.1.2.2.2.2.1.elem' HY.out.1) Try.underlying24 rfl (by rw [bvs_length, HY.out.2]; exact infoHash) ?_
                  clear hS'
                  go_wp2
                  exact ⟨trivial, rfl⟩
                refine pl_take (i := 13) 104 rfl rfl rfl (by kernel_rfl) (by kernel_rfl) (by kernel_rfl) (by simp [Act.put]) hS.out ?_
                apply Exists.intro
                refine And.intro (fun w' hS' => ?_) ?_
                · refine wpList_unguard' rfl ?_
                  clear hS'
                  go_wp2
                  first
                    | exact ⟨trivial, rfl⟩
                    | exact rfl
                refine pl_take (i := 14) 105 rfl rfl rfl (by kernel_rfl) (by kernel_rfl) (by kernel_rfl) (by simp [Act.put]) hS.out ?_
                apply Exists.intro
                refine And.intro (fun w' hS' => ?_) ?_
                · refine wpList_unguard' rfl ?_
                  clear hS'
                  go_wp2
                  first
                    | exact ⟨trivial, rfl⟩
                    | exact rfl
                refine pl_take (i := 15) 106 rfl rfl rfl (by kernel_rfl) (by kernel_rfl) (by kernel_rfl) (by simp [Act.put]) hS.out ?_
                apply Exists.intro
                refine And.intro (fun w' hS' => ?_) ?_
                · refine wpList_unguard' rfl ?_
                  clear hS'
                  go_wp2
                  first
                    | exact ⟨trivial, rfl⟩
                    | exact rfl
                refine pl_take (i := 16) 107 rfl rfl rfl (by kernel_rfl) (by kernel_rfl) (by kernel_rfl) (by simp [Act.put]) hS.out ?_
                apply Exists.intro
                refine And.intro (fun w' hS' => ?_) ?_
                · refine wpList_unguard' rfl ?_
                  refine wpList_load_agg rfl 24 (.tmp 106) rfl (ad.add (p * 32)) rfl (bvs x) _ (hS'.1.2.2.2.2.1.elem' HX.out.1) Try.underlying24 rfl (by rw [bvs_length, HX.out.2]; exact infoHash) ?_
                  clear hS'
                  go_wp2
                  exact ⟨trivial, rfl⟩
                refine pl_take (i := 17) 108 rfl rfl rfl (by kernel_rfl) (by kernel_rfl) (by kernel_rfl) (by simp [Act.put]) hS.out ?_
                apply Exists.intro
                refine And.intro (fun w' hS' => ?_) ?_
                · refine wpList_unguard' rfl ?_
                  refine wpList_bin rfl .eql 24 24 (.tmp 103) (.tmp 107) rfl (.bool false) (eqGuard_agg _ _ _ _ _ _ _ (by kernel_rfl)) ((hash_eq w' y x HY.out.2 HX.out.2).trans (by rw [QX.out])) ?_
                  clear hS'
                  go_wp2
                  exact ⟨trivial, rfl⟩
                refine pl_take (i := 18) 109 rfl rfl rfl (by kernel_rfl) (by kernel_rfl) (by kernel_rfl) (by simp [Act.put]) hS.out ?_
                apply Exists.intro
                refine And.intro (fun w' hS' => ?_) ?_
                · go_wp2
                  first
                    | exact ⟨trivial, rfl⟩
                    | exact rfl
                refine pl_take (i := 19) 110 rfl rfl rfl (by kernel_rfl) (by kernel_rfl) (by kernel_rfl) (by simp [Act.put]) hS.out ?_
                apply Exists.intro
                refine And.intro (fun w' hS' => ?_) ?_
                · go_wp2
                  first
                    | exact ⟨trivial, rfl⟩
                    | exact rfl
                refine pl_take (i := 20) 111 rfl rfl rfl (by kernel_rfl) (by kernel_rfl) (by kernel_rfl) (by simp [Act.put]) hS.out ?_
                apply Exists.intro
                refine And.intro (fun w' hS' => ?_) ?_
                · refine wpList_unguard' rfl ?_
                  refine wpList_load_agg rfl 24 (.tmp 9) rfl (⟨G9, 0, none⟩) rfl (bvs R) _ ((At.block hS'.1.2.2.1).load) Try.underlying24 rfl (by rw [bvs_length, HL.out.1]; exact infoHash) ?_
                  clear hS'
                  go_wp2
                  exact ⟨trivial, rfl⟩
                refine pl_take (i := 21) 112 rfl rfl rfl (by kernel_rfl) (by kernel_rfl) (by kernel_rfl) (by simp [Act.put]) hS.out ?_
                apply Exists.intro
                refine And.intro (fun w' hS' => ?_) ?_
                · refine wpList_unguard' rfl ?_
                  clear hS'
                  go_wp2
                  first
                    | exact ⟨trivial, rfl⟩
                    | exact rfl
                refine pl_take (i := 22) 113 rfl rfl rfl (by kernel_rfl) (by kernel_rfl) (by kernel_rfl) (by simp [Act.put]) hS.out ?_
                apply Exists.intro
                refine And.intro (fun w' hS' => ?_) ?_
                · refine wpList_unguard' rfl ?_
                  clear hS'
                  go_wp2
                  first
                    | exact ⟨trivial, rfl⟩
                    | exact rfl
                refine pl_take (i := 23) 114 rfl rfl rfl (by kernel_rfl) (by kernel_rfl) (by kernel_rfl) (by simp [Act.put]) hS.out ?_
                apply Exists.intro
                refine And.intro (fun w' hS' => ?_) ?_
                · refine wpList_unguard' rfl ?_
                  clear hS'
                  go_wp2
                  first
                    | exact ⟨trivial, rfl⟩
                    | exact rfl
                refine pl_take (i := 24) 115 rfl rfl rfl (by kernel_rfl) (by kernel_rfl) (by kernel_rfl) (by simp [Act.put]) hS.out ?_
                apply Exists.intro
                refine And.intro (fun w' hS' => ?_) ?_
                · refine wpList_unguard' rfl ?_
                  refine wpList_load_agg rfl 24 (.tmp 114) rfl (ad.add (p * 32)) rfl (bvs x) _ (hS'.1.2.2.2.2.1.elem' HX.out.1) Try.underlying24 rfl (by rw [bvs_length, HX.out.2]; exact infoHash) ?_
                  clear hS'
                  go_wp2
                  exact ⟨trivial, rfl⟩
                refine pl_take (i := 25) 116 rfl rfl rfl (by kernel_rfl) (by kernel_rfl) (by kernel_rfl) (by simp [Act.put]) hS.out ?_
                apply Exists.intro
                refine And.intro (fun w' hS' => ?_) ?_
                · refine wpList_unguard' rfl ?_
                  refine wpList_load_agg rfl 92 (.tmp 12) rfl ⟨G12, 0, none⟩ rfl [.int .i64 (z : Int), .int .i64 (N : Int), .slice a5 q5 k5] _ (At.block hS'.2).load Try.underlying92 rfl (by exact infoPath) ?_
                  clear hS'
                  go_wp2
                  exact ⟨trivial, rfl⟩
                refine pl_heavy (i := 26) rfl (by kernel_rfl) ?_
                refine wpList_unguard' rfl ?_
                go_wp2_with fail
                refine (C4.out wz hS.out.1.2.2.2.2.2).mono ?_
                rintro e wy ⟨rfl, bk⟩
                replace hS := Lib.hid (And.intro (MK.fresh hS.out.1 bk) (hS.out.2.fresh bk))
                clear bk
                go_wp2
                refine And.intro hS.out ?_
                refine pl_heavy (i := 27) rfl (by kernel_rfl) ?_
                refine wpList_unguard' rfl ?_
                go_wp2_with fail
                refine (ynum_any _ _).mono ?_
                rintro e wz ⟨rfl, rfl⟩
                go_wp2
                refine And.intro hS.out ?_
                refine pl_take (i := 28) 119 rfl rfl rfl (by kernel_rfl) (by kernel_rfl) (by kernel_rfl) (by simp [Act.put]) hS.out ?_
                apply Exists.intro
                refine And.intro (fun w' hS' => ?_) ?_
                · refine wpList_unguard' rfl ?_
                  clear hS'
                  go_wp2
                  first
                    | exact ⟨trivial, rfl⟩
                    | exact rfl
                refine pl_take (i := 29) 120 rfl rfl rfl (by kernel_rfl) (by kernel_rfl) (by kernel_rfl) (by simp [Act.put]) hS.out ?_
                apply Exists.intro
                refine And.intro (fun w' hS' => ?_) ?_
                · go_wp2
                  first
                    | exact ⟨trivial, rfl⟩
                    | exact rfl
                refine pl_done (by kernel_rfl) ?_
                go_wp2
                go_meet
                case rel => exact ⟨true, rfl, (fun e => by cases e), hS.out.1, hS.out.2⟩
            · have QX := Lib.hid hyx
              clear hyx
              refine pl_start 30 rfl (fun w' => MK w w' G9 G10 O R p N (.slice (some ad) N c0) l (.slice a5 q5 k5) Pt ∧ CB w' 92 G12 [.int .i64 (z : Int), .int .i64 (N : Int), .slice a5 q5 k5]) (by kernel_rfl) ?_
              obtain ⟨wz, hw0⟩ : ∃ w0, w0 = World.drew w6 := ⟨_, rfl⟩
              rw [← hw0]
              have hS := Lib.hid (And.intro (MK.fresh hk6.out (show Below (World.heap w6).size w6 wz from by rw [hw0]; exact (Below.refl _ w6).drew)) (CB.fresh hq6.out (show Below (World.heap w6).size w6 wz from by rw [hw0]; exact (Below.refl _ w6).drew)))
              clear hw0
              refine pl_take (i := 0) 91 rfl rfl rfl (by kernel_rfl) (by kernel_rfl) (by kernel_rfl) (by simp [Act.put]) hS.out ?_
              apply Exists.intro
              refine And.intro (fun w' hS' => ?_) ?_
              · go_wp2
                first
                  | exact ⟨trivial, rfl⟩
                  | exact rfl
              refine pl_take (i := 1) 92 rfl rfl rfl (by kernel_rfl) (by kernel_rfl) (by kernel_rfl) (by simp [Act.put]) hS.out ?_
              apply Exists.intro
              refine And.intro (fun w' hS' => ?_) ?_
              · go_wp2
                first
                  | exact ⟨trivial, rfl⟩
                  | exact rfl
              try rw [Q1.out]
              try rw [N1.out]
              refine pl_take (i := 2) 93 rfl rfl rfl (by kernel_rfl) (by kernel_rfl) (by kernel_rfl) (by simp [Act.put]) hS.out ?_
              apply Exists.intro
              refine And.intro (fun w' hS' => ?_) ?_
              · go_wp2
                first
                  | exact ⟨trivial, rfl⟩
                  | exact rfl
              refine pl_take (i := 3) 94 rfl rfl rfl (by kernel_rfl) (by kernel_rfl) (by kernel_rfl) (by simp [Act.put]) hS.out ?_
              apply Exists.intro
              refine And.intro (fun w' hS' => ?_) ?_
              · refine wpList_unguard' rfl ?_
                clear hS'
                go_wp2
                first
                  | exact ⟨trivial, rfl⟩
                  | exact rfl
              refine pl_take (i := 4) 95 rfl rfl rfl (by kernel_rfl) (by kernel_rfl) (by kernel_rfl) (by simp [Act.put]) hS.out ?_
              apply Exists.intro
              refine And.intro (fun w' hS' => ?_) ?_
              · refine wpList_unguard' rfl ?_
                clear hS'
                go_wp2
                first
                  | exact ⟨trivial, rfl⟩
                  | exact rfl
              refine pl_take (i := 5) 96 rfl rfl rfl (by kernel_rfl) (by kernel_rfl) (by kernel_rfl) (by simp [Act.put]) hS.out ?_
              apply Exists.intro
              refine And.intro (fun w' hS' => ?_) ?_
              · refine wpList_unguard' rfl ?_
                clear hS'
                go_wp2
                first
                  | exact ⟨trivial, rfl⟩
                  | exact rfl
              refine pl_take (i := 6) 97 rfl rfl rfl (by kernel_rfl) (by kernel_rfl) (by kernel_rfl) (by simp [Act.put]) hS.out ?_
              apply Exists.intro
              refine And.intro (fun w' hS' => ?_) ?_
              · refine wpList_unguard' rfl ?_
                clear hS'
                go_wp2
                first
                  | exact ⟨trivial, rfl⟩
                  | exact rfl
              try rw [Q2.out]
              try rw [N2.out]
              refine pl_take (i := 7) 98 rfl rfl rfl (by kernel_rfl) (by kernel_rfl) (by kernel_rfl) (by simp [Act.put]) hS.out ?_
              apply Exists.intro
              refine And.intro (fun w' hS' => ?_) ?_
              · go_wp2
                first
                  | exact ⟨trivial, rfl⟩
                  | exact rfl
              refine pl_take (i := 8) 99 rfl rfl rfl (by kernel_rfl) (by kernel_rfl) (by kernel_rfl) (by simp [Act.put]) hS.out ?_
              apply Exists.intro
              refine And.intro (fun w' hS' => ?_) ?_
              · go_wp2
                first
                  | exact ⟨trivial, rfl⟩
                  | exact rfl
              refine pl_take (i := 9) 100 rfl rfl rfl (by kernel_rfl) (by kernel_rfl) (by kernel_rfl) (by simp [Act.put]) hS.out ?_
              apply Exists.intro
              refine And.intro (fun w' hS' => ?_) ?_
              · refine wpList_unguard' rfl ?_
                clear hS'
                go_wp2
                first
                  | exact ⟨trivial, rfl⟩
                  | exact rfl
              refine pl_take (i := 10) 101 rfl rfl rfl (by kernel_rfl) (by kernel_rfl) (by kernel_rfl) (by simp [Act.put]) hS.out ?_
              apply Exists.intro
              refine And.intro (fun w' hS' => ?_) ?_
              · refine wpList_unguard' rfl ?_
                clear hS'
                go_wp2
                first
                  | exact ⟨trivial, rfl⟩
                  | exact rfl
              refine pl_take (i := 11) 102 rfl rfl rfl (by kernel_rfl) (by kernel_rfl) (by kernel_rfl) (by simp [Act.put]) hS.out ?_
              apply Exists.intro
              refine And.intro (fun w' hS' => ?_) ?_
              · refine wpList_unguard' rfl ?_
                clear hS'
                go_wp2
                first
                  | exact ⟨trivial, rfl⟩
                  | exact rfl
              refine pl_take (i := 12) 103 rfl rfl rfl (by kernel_rfl) (by kernel_rfl) (by kernel_rfl) (by simp [Act.put]) hS.out ?_
              apply Exists.intro
              refine And.intro (fun w' hS' => ?_) ?_
              · refine wpList_unguard' rfl ?_
                refine wpList_load_agg rfl 24 (.tmp 102) rfl (ad.add (z * 32)) rfl (bvs y) _ (hS'.1.2.2.2.2.1.elem' HY.out.1) Try.underlying24 rfl (by rw [bvs_length, HY.out.2]; exact infoHash) ?_
                clear hS'
                go_wp2
                exact ⟨trivial, rfl⟩
              refine pl_take (i := 13) 104 rfl rfl rfl (by kernel_rfl) (by kernel_rfl) (by kernel_rfl) (by simp [Act.put]) hS.out ?_
              apply Exists.intro
              refine And.intro (fun w' hS' => ?_) ?_
              · refine wpList_unguard' rfl ?_
                clear hS'
                go_wp2
                first
                  | exact ⟨trivial, rfl⟩
                  | exact rfl
              refine pl_take (i := 14) 105 rfl rfl rfl (by kernel_rfl) (by kernel_rfl) (by kernel_rfl) (by simp [Act.put]) hS.out ?_
              apply Exists.intro
              refine And.intro (fun w' hS' => ?_) ?_
              · refine wpList_unguard' rfl ?_
                clear hS'
                go_wp2
                first
                  | exact ⟨trivial, rfl⟩
                  | exact rfl
              refine pl_take (i := 15) 106 rfl rfl rfl (by kernel_rfl) (by kernel_rfl) (by kernel_rfl) (by simp [Act.put]) hS.out ?_
              apply Exists.intro
              refine And.intro (fun w' hS' => ?_) ?_
              · refine wpList_unguard' rfl ?_
                clear hS'
                go_wp2
                first
                  | exact ⟨trivial, rfl⟩
                  | exact rfl
              refine pl_take (i := 16) 107 rfl rfl rfl (by kernel_rfl) (by kernel_rfl) (by kernel_rfl) (by simp [Act.put]) hS.out ?_
              apply Exists.intro
              refine And.intro (fun w' hS' => ?_) ?_
              · refine wpList_unguard' rfl ?_
                refine wpList_load_agg rfl 24 (.tmp 106) rfl (ad.add (p * 32)) rfl (bvs x) _ (hS'.1.2.2.2.2.1.elem' HX.out.1) Try.underlying24 rfl (by rw [bvs_length, HX.out.2]; exact infoHash) ?_
                clear hS'
                go_wp2
                exact ⟨trivial, rfl⟩
              refine pl_take (i := 17) 108 rfl rfl rfl (by kernel_rfl) (by kernel_rfl) (by kernel_rfl) (by simp [Act.put]) hS.out ?_
              apply Exists.intro
              refine And.intro (fun w' hS' => ?_) ?_
              · refine wpList_unguard' rfl ?_
                refine wpList_bin rfl .eql 24 24 (.tmp 103) (.tmp 107) rfl (.bool true) (eqGuard_agg _ _ _ _ _ _ _ (by kernel_rfl)) ((hash_eq w' y x HY.out.2 HX.out.2).trans (by rw [QX.out])) ?_
                clear hS'
                go_wp2
                exact ⟨trivial, rfl⟩
              refine pl_take (i := 18) 109 rfl rfl rfl (by kernel_rfl) (by kernel_rfl) (by kernel_rfl) (by simp [Act.put]) hS.out ?_
              apply Exists.intro
              refine And.intro (fun w' hS' => ?_) ?_
              · go_wp2
                first
                  | exact ⟨trivial, rfl⟩
                  | exact rfl
              refine pl_take (i := 19) 110 rfl rfl rfl (by kernel_rfl) (by kernel_rfl) (by kernel_rfl) (by simp [Act.put]) hS.out ?_
              apply Exists.intro
              refine And.intro (fun w' hS' => ?_) ?_
              · go_wp2
                first
                  | exact ⟨trivial, rfl⟩
                  | exact rfl
              refine pl_skip (i := 20) rfl (by kernel_rfl) (by kernel_rfl) (by kernel_rfl) (by kernel_rfl) hS.out ?_
              apply Exists.intro
              refine And.intro (by simp [Act.put, go_sem]; rfl) ?_
              refine pl_skip (i := 21) rfl (by kernel_rfl) (by kernel_rfl) (by kernel_rfl) (by kernel_rfl) hS.out ?_
              apply Exists.intro
              refine And.intro (by simp [Act.put, go_sem]; rfl) ?_
              refine pl_skip (i := 22) rfl (by kernel_rfl) (by kernel_rfl) (by kernel_rfl) (by kernel_rfl) hS.out ?_
              apply Exists.intro
              refine And.intro (by simp [Act.put, go_sem]; rfl) ?_
              refine pl_skip (i := 23) rfl (by kernel_rfl) (by kernel_rfl) (by kernel_rfl) (by kernel_rfl) hS.out ?_
              apply Exists.intro
              refine And.intro (by simp [Act.put, go_sem]; rfl) ?_
              refine pl_skip (i := 24) rfl (by kernel_rfl) (by kernel_rfl) (by kernel_rfl) (by kernel_rfl) hS.out ?_
              apply Exists.intro
              refine And.intro (by simp [Act.put, go_sem]; rfl) ?_
              refine pl_skip (i := 25) rfl (by kernel_rfl) (by kernel_rfl) (by kernel_rfl) (by kernel_rfl) hS.out ?_
              apply Exists.intro
              refine And.intro (by simp [Act.put, go_sem]; rfl) ?_
              refine pl_skip (i := 26) rfl (by kernel_rfl) (by kernel_rfl) (by kernel_rfl) (by kernel_rfl) hS.out ?_
              apply Exists.intro
              refine And.intro (by simp [Act.put, go_sem]; rfl) ?_
              refine pl_skip (i := 27) rfl (by kernel_rfl) (by kernel_rfl) (by kernel_rfl) (by kernel_rfl) hS.out ?_
              apply Exists.intro
              refine And.intro (by simp [Act.put, go_sem]; rfl) ?_
              refine pl_skip (i := 28) rfl (by kernel_rfl) (by kernel_rfl) (by kernel_rfl) (by kernel_rfl) hS.out ?_
              apply Exists.intro
              refine And.intro (by simp [Act.put, go_sem]; rfl) ?_
              refine pl_take (i := 29) 120 rfl rfl rfl (by kernel_rfl) (by kernel_rfl) (by kernel_rfl) (by simp [Act.put]) hS.out ?_
              apply Exists.intro
              refine And.intro (fun w' hS' => ?_) ?_
              · go_wp2
                first
                  | exact ⟨trivial, rfl⟩
                  | exact rfl
              refine pl_done (by kernel_rfl) ?_
              go_wp2
              go_meet
              case rel => exact ⟨true, rfl, (fun e => by cases e), hS.out.1, hS.out.2⟩
          · have Q2 : Hid (decide ((N : Int) ≤ (z : Int)) = true) := Lib.hid (decide_eq_true (by omega))
            have N2 : Hid (decide (N ≤ z) = true) := Lib.hid (decide_eq_true (by omega))
            clear hzN
            refine pl_start 30 rfl (fun w' => MK w w' G9 G10 O R p N (.slice (some ad) N c0) l (.slice a5 q5 k5) Pt ∧ CB w' 92 G12 [.int .i64 (z : Int), .int .i64 (N : Int), .slice a5 q5 k5]) (by kernel_rfl) ?_
            obtain ⟨wz, hw0⟩ : ∃ w0, w0 = World.drew w6 := ⟨_, rfl⟩
            rw [← hw0]
            have hS := Lib.hid (And.intro (MK.fresh hk6.out (show Below (World.heap w6).size w6 wz from by rw [hw0]; exact (Below.refl _ w6).drew)) (CB.fresh hq6.out (show Below (World.heap w6).size w6 wz from by rw [hw0]; exact (Below.refl _ w6).drew)))
            clear hw0
            refine pl_take (i := 0) 91 rfl rfl rfl (by kernel_rfl) (by kernel_rfl) (by kernel_rfl) (by simp [Act.put]) hS.out ?_
            apply Exists.intro
            refine And.intro (fun w' hS' => ?_) ?_
            · go_wp2
              first
                | exact ⟨trivial, rfl⟩
                | exact rfl
            refine pl_take (i := 1) 92 rfl rfl rfl (by kernel_rfl) (by kernel_rfl) (by kernel_rfl) (by simp [Act.put]) hS.out ?_
            apply Exists.intro
            refine And.intro (fun w' hS' => ?_) ?_
            · go_wp2
              first
                | exact ⟨trivial, rfl⟩
                | exact rfl
            try rw [Q1.out]
            try rw [N1.out]
            refine pl_take (i := 2) 93 rfl rfl rfl (by kernel_rfl) (by kernel_rfl) (by kernel_rfl) (by simp [Act.put]) hS.out ?_
            apply Exists.intro
            refine And.intro (fun w' hS' => ?_) ?_
            · go_wp2
              first
                | exact ⟨trivial, rfl⟩
                | exact rfl
            refine pl_take (i := 3) 94 rfl rfl rfl (by kernel_rfl) (by kernel_rfl) (by kernel_rfl) (by simp [Act.put]) hS.out ?_
            apply Exists.intro
            refine And.intro (fun w' hS' => ?_) ?_
            · refine wpList_unguard' rfl ?_
              clear hS'
              go_wp2
              first
                | exact ⟨trivial, rfl⟩
                | exact rfl
            refine pl_take (i := 4) 95 rfl rfl rfl (by kernel_rfl) (by kernel_rfl) (by kernel_rfl) (by simp [Act.put]) hS.out ?_
            apply Exists.intro
            refine And.intro (fun w' hS' => ?_) ?_
            · refine wpList_unguard' rfl ?_
              clear hS'
              go_wp2
              first
                | exact ⟨trivial, rfl⟩
                | exact rfl
            refine pl_take (i := 5) 96 rfl rfl rfl (by kernel_rfl) (by kernel_rfl) (by kernel_rfl) (by simp [Act.put]) hS.out ?_
            apply Exists.intro
            refine And.intro (fun w' hS' => ?_) ?_
            · refine wpList_unguard' rfl ?_
              clear hS'
              go_wp2
              first
                | exact ⟨trivial, rfl⟩
                | exact rfl
            refine pl_take (i := 6) 97 rfl rfl rfl (by kernel_rfl) (by kernel_rfl) (by kernel_rfl) (by simp [Act.put]) hS.out ?_
            apply Exists.intro
            refine And.intro (fun w' hS' => ?_) ?_
            · refine wpList_unguard' rfl ?_
              clear hS'
              go_wp2
              first
                | exact ⟨trivial, rfl⟩
                | exact rfl
            try rw [Q2.out]
            try rw [N2.out]
            refine pl_take (i := 7) 98 rfl rfl rfl (by kernel_rfl) (by kernel_rfl) (by kernel_rfl) (by simp [Act.put]) hS.out ?_
            apply Exists.intro
            refine And.intro (fun w' hS' => ?_) ?_
            · go_wp2
              first
                | exact ⟨trivial, rfl⟩
                | exact rfl
            refine pl_take (i := 8) 99 rfl rfl rfl (by kernel_rfl) (by kernel_rfl) (by kernel_rfl) (by simp [Act.put]) hS.out ?_
            apply Exists.intro
            refine And.intro (fun w' hS' => ?_) ?_
            · go_wp2
              first
                | exact ⟨trivial, rfl⟩
                | exact rfl
            refine pl_skip (i := 9) rfl (by kernel_rfl) (by kernel_rfl) (by kernel_rfl) (by kernel_rfl) hS.out ?_
            apply Exists.intro
            refine And.intro (by simp [Act.put, go_sem]; rfl) ?_
            refine pl_skip (i := 10) rfl (by kernel_rfl) (by kernel_rfl) (by kernel_rfl) (by kernel_rfl) hS.out ?_
            apply Exists.intro
            refine And.intro (by simp [Act.put, go_sem]; rfl) ?_
            refine pl_skip (i := 11) rfl (by kernel_rfl) (by kernel_rfl) (by kernel_rfl) (by kernel_rfl) hS.out ?_
            apply Exists.intro
            refine And.intro (by simp [Act.put, go_sem]; rfl) ?_
            refine pl_skip (i := 12) rfl (by kernel_rfl) (by kernel_rfl) (by kernel_rfl) (by kernel_rfl) hS.out ?_
            apply Exists.intro
            refine And.intro (by simp [Act.put, go_sem]; rfl) ?_
            refine pl_skip (i := 13) rfl (by kernel_rfl) (by kernel_rfl) (by kernel_rfl) (by kernel_rfl) hS.out ?_
            apply Exists.intro
            refine And.intro (by simp [Act.put, go_sem]; rfl) ?_
            refine pl_skip (i := 14) rfl (by kernel_rfl) (by kernel_rfl) (by kernel_rfl) (by kernel_rfl) hS.out ?_
            apply Exists.intro
            refine And.intro (by simp [Act.put, go_sem]; rfl) ?_
            refine pl_skip (i := 15) rfl (by kernel_rfl) (by kernel_rfl) (by kernel_rfl) (by kernel_rfl) hS.out ?_
            apply Exists.intro
            refine And.intro (by simp [Act.put, go_sem]; rfl) ?_
            refine pl_skip (i := 16) rfl (by kernel_rfl) (by kernel_rfl) (by kernel_rfl) (by kernel_rfl) hS.out ?_
            apply Exists.intro
            refine And.intro (by simp [Act.put, go_sem]; rfl) ?_
            refine pl_skip (i := 17) rfl (by kernel_rfl) (by kernel_rfl) (by kernel_rfl) (by kernel_rfl) hS.out ?_
            apply Exists.intro
            refine And.intro (by simp [Act.put, go_sem]; rfl) ?_
            refine pl_take (i := 18) 109 rfl rfl rfl (by kernel_rfl) (by kernel_rfl) (by kernel_rfl) (by simp [Act.put]) hS.out ?_
            apply Exists.intro
            refine And.intro (fun w' hS' => ?_) ?_
            · go_wp2
              first
                | exact ⟨trivial, rfl⟩
                | exact rfl
            refine pl_take (i := 19) 110 rfl rfl rfl (by kernel_rfl) (by kernel_rfl) (by kernel_rfl) (by simp [Act.put]) hS.out ?_
            apply Exists.intro
            refine And.intro (fun w' hS' => ?_) ?_
            · go_wp2
              first
                | exact ⟨trivial, rfl⟩
                | exact rfl
            refine pl_skip (i := 20) rfl (by kernel_rfl) (by kernel_rfl) (by kernel_rfl) (by kernel_rfl) hS.out ?_
            apply Exists.intro
            refine And.intro (by simp [Act.put, go_sem]; rfl) ?_
            refine pl_skip (i := 21) rfl (by kernel_rfl) (by kernel_rfl) (by kernel_rfl) (by kernel_rfl) hS.out ?_
            apply Exists.intro
            refine And.intro (by simp [Act.put, go_sem]; rfl) ?_
            refine pl_skip (i := 22) rfl (by kernel_rfl) (by kernel_rfl) (by kernel_rfl) (by kernel_rfl) hS.out ?_
            apply Exists.intro
            refine And.intro (by simp [Act.put, go_sem]; rfl) ?_
            refine pl_skip (i := 23) rfl (by kernel_rfl) (by kernel_rfl) (by kernel_rfl) (by kernel_rfl) hS.out ?_
            apply Exists.intro
            refine And.intro (by simp [Act.put, go_sem]; rfl) ?_
            refine pl_skip (i := 24) rfl (by kernel_rfl) (by kernel_rfl) (by kernel_rfl) (by kernel_rfl) hS.out ?_
            apply Exists.intro
            refine And.intro (by simp [Act.put, go_sem]; rfl) ?_
            refine pl_skip (i := 25) rfl (by kernel_rfl) (by kernel_rfl) (by kernel_rfl) (by kernel_rfl) hS.out ?_
            apply Exists.intro
            refine And.intro (by simp [Act.put, go_sem]; rfl) ?_
            refine pl_skip (i := 26) rfl (by kernel_rfl) (by kernel_rfl) (by kernel_rfl) (by kernel_rfl) hS.out ?_
            apply Exists.intro
            refine And.intro (by simp [Act.put, go_sem]; rfl) ?_
            refine pl_skip (i := 27) rfl (by kernel_rfl) (by kernel_rfl) (by kernel_rfl) (by kernel_rfl) hS.out ?_
            apply Exists.intro
            refine And.intro (by simp [Act.put, go_sem]; rfl) ?_
            refine pl_skip (i := 28) rfl (by kernel_rfl) (by kernel_rfl) (by kernel_rfl) (by kernel_rfl) hS.out ?_
            apply Exists.intro
            refine And.intro (by simp [Act.put, go_sem]; rfl) ?_
            refine pl_take (i := 29) 120 rfl rfl rfl (by kernel_rfl) (by kernel_rfl) (by kernel_rfl) (by simp [Act.put]) hS.out ?_
            apply Exists.intro
            refine And.intro (fun w' hS' => ?_) ?_
            · go_wp2
              first
                | exact ⟨trivial, rfl⟩
                | exact rfl
            refine pl_done (by kernel_rfl) ?_
            go_wp2
            go_meet
            case rel => exact ⟨true, rfl, (fun e => by cases e), hS.out.1, hS.out.2⟩
      case rest =>
        obtain ⟨B, rfl, hB, hk0, hq0⟩ := hcut
        cases B with
        | true =>
          have BB := Lib.hid hk0.1
          clear hB hk0 hq0 hk6 hq6
          go_wp2
          go_ret
          exact ⟨rfl, BB.out⟩
        | false =>
          obtain ⟨z, y, rfl, hz, hT⟩ := hB rfl
          have hk := Lib.hid (And.intro hk0 hq0)
          have iz : (z : Int) < (N : Int) := by omega
          have T4 := Lib.hid (fun w0 (h0 : Hs w0 (.slice a5 q5 k5) Pt) (h1 : Hs w0 (.slice (some ad) N c0) l) => ytold_any w0 (.slice a5 q5 k5) (.slice (some ad) N c0) x (z : Int) (N : Int) Pt l HX.out.2 h0 h1 HL.out.2.2.1)
          rw [hT] at T4
          clear hB hk0 hq0 hk6 hq6 hz hT
          go_wp2_with fail
          refine pl_start 8 rfl (fun w' => MK w w' G9 G10 O R p N (.slice (some ad) N c0) l (.slice a5 q5 k5) Pt ∧ CB w' 92 G12 [.int .i64 (z : Int), .int .i64 (N : Int), .slice a5 q5 k5]) (by kernel_rfl) ?_
          obtain ⟨wz, hw0⟩ : ∃ w0, w0 = World.drew wc := ⟨_, rfl⟩
          rw [← hw0]
          have hS := Lib.hid (And.intro (MK.fresh hk.out.1 (show Below (World.heap wc).size wc wz from by rw [hw0]; exact (Below.refl _ wc).drew)) (CB.fresh hk.out.2 (show Below (World.heap wc).size wc wz from by rw [hw0]; exact (Below.refl _ wc).drew)))
          clear hw0
          refine pl_take (i := 0) 121 rfl rfl rfl (by kernel_rfl) (by kernel_rfl) (by kernel_rfl) (by simp [Act.put]) hS.out ?_
          apply Exists.intro
          refine And.intro (fun w' hS' => ?_) ?_
          · go_wp2
            first
              | exact ⟨trivial, rfl⟩
              | exact rfl
          refine pl_take (i := 1) 122 rfl rfl rfl (by kernel_rfl) (by kernel_rfl) (by kernel_rfl) (by simp [Act.put]) hS.out ?_
          apply Exists.intro
          refine And.intro (fun w' hS' => ?_) ?_
          · go_wp2
            first
              | exact ⟨trivial, rfl⟩
              | exact rfl
          refine pl_take (i := 2) 123 rfl rfl rfl (by kernel_rfl) (by kernel_rfl) (by kernel_rfl) (by simp [Act.put]) hS.out ?_
          apply Exists.intro
          refine And.intro (fun w' hS' => ?_) ?_
          · go_wp2
            first
              | exact ⟨trivial, rfl⟩
              | exact rfl
          refine pl_take (i := 3) 124 rfl rfl rfl (by kernel_rfl) (by kernel_rfl) (by kernel_rfl) (by simp [Act.put]) hS.out ?_
          apply Exists.intro
          refine And.intro (fun w' hS' => ?_) ?_
          · refine wpList_load_agg rfl 24 (.tmp 123) rfl (ad.add (p * 32)) rfl (bvs x) _ (hS'.1.2.2.2.2.1.elem' HX.out.1) Try.underlying24 rfl (by rw [bvs_length, HX.out.2]; exact infoHash) ?_
            clear hS'
            go_wp2
            exact ⟨trivial, rfl⟩
          refine pl_take (i := 4) 125 rfl rfl rfl (by kernel_rfl) (by kernel_rfl) (by kernel_rfl) (by simp [Act.put]) hS.out ?_
          apply Exists.intro
          refine And.intro (fun w' hS' => ?_) ?_
          · refine wpList_load_agg rfl 92 (.tmp 12) rfl ⟨G12, 0, none⟩ rfl [.int .i64 (z : Int), .int .i64 (N : Int), .slice a5 q5 k5] _ (At.block hS'.2).load Try.underlying92 rfl (by exact infoPath) ?_
            clear hS'
            go_wp2
            exact ⟨trivial, rfl⟩
          refine pl_take (i := 5) 126 rfl rfl rfl (by kernel_rfl) (by kernel_rfl) (by kernel_rfl) (by simp [Act.put]) hS.out ?_
          apply Exists.intro
          refine And.intro (fun w' hS' => ?_) ?_
          · go_wp2
            first
              | exact ⟨trivial, rfl⟩
              | exact rfl
          refine pl_heavy (i := 6) rfl (by kernel_rfl) ?_
          go_wp2_with fail
          refine (T4.out wz hS.out.1.2.2.2.2.2 hS.out.1.2.2.2.2.1).mono ?_
          rintro e wy ⟨rfl, bk⟩
          replace hS := Lib.hid (And.intro (MK.fresh hS.out.1 bk) (hS.out.2.fresh bk))
          clear bk
          go_wp2
          refine And.intro hS.out ?_
          refine pl_take (i := 7) 8 rfl rfl rfl (by kernel_rfl) (by kernel_rfl) (by kernel_rfl) (by simp [Act.put]) hS.out ?_
          apply Exists.intro
          refine And.intro (fun w' hS' => ?_) ?_
          · go_wp2
            first
              | exact ⟨trivial, rfl⟩
              | exact rfl
          refine pl_done (by kernel_rfl) ?_
          go_wp2
          go_ret
          exact ⟨rfl, hS.out.1.1⟩

end Go.Proofs.Ytbabjepblakboaa
