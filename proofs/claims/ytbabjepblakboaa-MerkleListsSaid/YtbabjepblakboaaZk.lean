/- MerkleLists: the law's walk, where two unlike texts are told. -/
import Derived.Test.YtbabjepblakboaaZj
namespace Go.Proofs.Ytbabjepblakboaa
set_option linter.unusedVariables false
set_option linter.unusedSimpArgs false
open Go.RowKit Go.Lib

theorem take_next' {l m : List Bs} {k : Nat} {x y : Bs} (hx : l[k]? = some x) (hy : m[k]? = some y) (h : l.take k = m.take k) (hxy : (x == y) = true) : l.take (k + 1) = m.take (k + 1) :=
  take_next hx hy h (by simpa using hxy)

theorem whole_eq {l m : List Bs} {k : Nat} (ht : l.take k = m.take k) (hk : l.length ≤ k) (he : l.length = m.length) : l = m := by
  rwa [List.take_of_length_le hk, List.take_of_length_le (by omega)] at ht

set_option maxRecDepth 100000 in
set_option maxHeartbeats 4000000 in
theorem yl_main (w : World) (v u : Value) (l m : List Bs) (h : Hs w v l) (hi : Hs w u m) (h70 : ¬ 70 < l.length) (h71 : ¬ 70 < m.length) (hr : rootB l = rootB m) (hlm : l ≠ m) (hl0 : 0 < l.length) (hm0 : 0 < m.length) :
    Calls Try.prog 12 #[v, u] w fun e w' => e = .returned (.bool true) ∧ Below w.heap.size w w' := by
  have hrr := hr
  obtain ⟨a0, c0, rfl⟩ := h.slice
  obtain ⟨a1, c1, rfl⟩ := hi.slice
  obtain ⟨N, hN⟩ : ∃ N, N = l.length := ⟨_, rfl⟩
  obtain ⟨M, hM⟩ : ∃ M, M = m.length := ⟨_, rfl⟩
  obtain ⟨X, hX⟩ : ∃ X, X = rootB l := ⟨_, rfl⟩
  obtain ⟨Y, hY⟩ : ∃ Y, Y = rootB m := ⟨_, rfl⟩
  have hXl : X.length = 32 := by rw [hX]; exact topB_length _ _
  have hYl : Y.length = 32 := by rw [hY]; exact topB_length _ _
  have CA := Lib.hid (fun w0 (h0 : Hs w0 (.slice a0 l.length c0) l) => mroot_any w0 (.slice a0 l.length c0) l h0 (by omega))
  have CB' := Lib.hid (fun w0 (h0 : Hs w0 (.slice a1 m.length c1) m) => mroot_any w0 (.slice a1 m.length c1) m h0 (by omega))
  have CS := Lib.hid (fun w0 (h0 : Hs w0 (.slice a0 l.length c0) l) (h1 : Hs w0 (.slice a1 m.length c1) m) => ysame_any w0 (.slice a0 l.length c0) (.slice a1 m.length c1) l m h0 h1)
  rw [← hX, ← hN] at CA
  rw [← hY, ← hM] at CB'
  rw [← hN, ← hM] at CS
  rw [← hN] at h h70 ⊢
  rw [← hM] at hi h71 ⊢
  have i70 : ¬ ((70 : Int) < (N : Int)) := by omega
  have i71 : ¬ ((70 : Int) < (M : Int)) := by omega
  have HA := Lib.hid h
  have HB := Lib.hid hi
  have HL := Lib.hid (And.intro hXl hYl)
  rw [← hX, ← hY] at hr
  subst hr
  rw [decide_eq_false hlm] at CS
  have CP := Lib.hid (fun w0 n (h0 : Hs w0 (.slice a0 l.length c0) l) (hn : n < l.length) => mpath_ok w0 n (.slice a0 l.length c0) l h0 hn (by omega))
  rw [← hN] at CP hl0
  rw [← hM] at hm0
  obtain ⟨ad, c0', he⟩ := h.isSome hN.symm hl0
  simp only [Value.slice.injEq, true_and] at he
  obtain ⟨rfl, rfl⟩ := he
  obtain ⟨bd, c1', he⟩ := hi.isSome hM.symm hm0
  simp only [Value.slice.injEq, true_and] at he
  obtain ⟨rfl, rfl⟩ := he
  have e1 : ((N : Int) == 0) = false := by rw [beq_eq_false_iff_ne]; omega
  have e2 : ((M : Int) == 0) = false := by rw [beq_eq_false_iff_ne]; omega
  have bN : (N : Int) ≤ 70 := by omega
  have HQ := Lib.hid (And.intro hN (And.intro hM (And.intro hrr (And.intro hlm (And.intro (And.intro h70 h71) (And.intro hl0 hm0))))))
  have HM : Hid (m.length ≤ 1048576) := Lib.hid (by omega)
  clear h hi h70 h71 hN hM hX hY hXl hYl hlm hrr hl0 hm0
  go_enter Try.func12, Try.ntmps12
  go_wp2_with fail
  refine (CA.out w HA.out).mono ?_
  rintro e w1 ⟨rfl, b1⟩
  have BB := Lib.hid b1
  clear b1
  go_wp2_with fail
  refine (CB'.out w1 (HB.out.fresh BB.out)).mono ?_
  rintro e w2 ⟨rfl, b2⟩
  replace BB := Lib.hid (BB.out.tr b2)
  clear b2
  go_wp2_with (with_reducible refine stopAt 21 ?_)
  refine Stop.go ?_
  refine wpList_unguard' rfl ?_
  refine wpList_bin rfl .neq 24 24 (.tmp 18) (.tmp 20) rfl (.bool false) (eqGuard_agg _ _ _ _ _ _ _ (by kernel_rfl)) (hash_ne_same w2 X HL.out.1) ?_
  go_wp2_with fail
  refine (CS.out w2 (HA.out.fresh BB.out) (HB.out.fresh BB.out)).mono ?_
  rintro e w3 ⟨rfl, b3⟩
  replace BB := Lib.hid (BB.out.tr b3)
  clear b3
  go_wp2
  go_loopw [5] (fun v5 wr => Below w.heap.size w wr ∧ ∃ k : Nat, k ≤ N ∧ k ≤ M ∧ v5 = .int .i64 (k : Int) ∧ l.take k = m.take k)
    (fun v _ => N - (RowKit.intOf v).toNat)
  case atStart => exact ⟨BB.out, 0, Nat.zero_le _, Nat.zero_le _, rfl, rfl⟩
  case round =>
    obtain ⟨hb, k, hkN, hkM, rfl, ht⟩ := hrel
    replace BB := Lib.hid hb
    have HT := Lib.hid (And.intro ht (And.intro hkN hkM))
    clear hb ht
    by_cases h1 : k < N
    · have Q1 : Hid (decide ((k : Int) < (N : Int)) = true) := Lib.hid (decide_eq_true (by omega))
      have N1 : Hid (decide (k < N) = true) := Lib.hid (decide_eq_true (by omega))
      have ik : (k : Int) < (N : Int) := by omega
      have ik2 : ¬ ((N : Int) ≤ (k : Int)) := by omega
      obtain ⟨x, hx⟩ : ∃ x, l[k]? = some x := ⟨_, List.getElem?_eq_getElem (by rw [← HQ.out.1]; exact h1)⟩
      have PK := Lib.hid (And.intro hx (And.intro (HA.out.1.get hx) h1))
      by_cases h2 : k < M
      · have Q2 : Hid (decide ((k : Int) < (M : Int)) = true) := Lib.hid (decide_eq_true (by omega))
        have N2 : Hid (decide (k < M) = true) := Lib.hid (decide_eq_true (by omega))
        have ik3 : (k : Int) < (M : Int) := by omega
        obtain ⟨y, hy⟩ : ∃ y, m[k]? = some y := ⟨_, List.getElem?_eq_getElem (by rw [← HQ.out.2.1]; exact h2)⟩
        have HXY := Lib.hid (And.intro hx (And.intro hy (And.intro (HA.out.1.get hx) (HB.out.1.get hy))))
        have HK := Lib.hid (And.intro h1 h2)
        clear hx hy h1 h2 hkN hkM
        cases hxy : (x == y)
        · have QX := Lib.hid hxy
          clear hxy
          have TOLD : Hid (collB m x (k : Int) (N : Int) (pathB k l) = true) := Lib.hid (by
            rw [HQ.out.1]
            refine lists_told HQ.out.2.2.1 (by have := HQ.out.2.2.2.2.1.1; have := HQ.out.1; omega) HXY.out.1 (fun _ e => ?_)
            rw [HXY.out.2.1] at e
            have h9 := QX.out
            simp only [Option.some.injEq] at e
            rw [e] at h9
            simp at h9)
          have hS : Hid (Hs wr.drew (.slice (some ad) N c0) l ∧ Hs wr.drew (.slice (some bd) M c1) m) := Lib.hid ⟨HA.out.fresh BB.out.drew, HB.out.fresh BB.out.drew⟩
          replace BB := Lib.hid BB.out.drew
          go_wp2_with fail
          refine pl_start 21 rfl (fun w' => Hs w' (.slice (some ad) N c0) l ∧ Hs w' (.slice (some bd) M c1) m) (by kernel_rfl) ?_
          obtain ⟨w4, hw4⟩ : ∃ w4, w4 = wr.drew := ⟨_, rfl⟩
          rw [← hw4] at hS BB ⊢
          clear hw4
          refine pl_take (i := 0) 39 rfl rfl rfl (by kernel_rfl) (by kernel_rfl) (by kernel_rfl) (by simp [Act.put]) hS.out ?_
          apply Exists.intro
          refine And.intro (fun w' hS' => ?_) ?_
          · go_wp2
            first
              | exact ⟨trivial, rfl⟩
              | exact rfl
          refine pl_take (i := 1) 40 rfl rfl rfl (by kernel_rfl) (by kernel_rfl) (by kernel_rfl) (by simp [Act.put]) hS.out ?_
          apply Exists.intro
          refine And.intro (fun w' hS' => ?_) ?_
          · go_wp2
            first
              | exact ⟨trivial, rfl⟩
              | exact rfl
          refine pl_take (i := 2) 41 rfl rfl rfl (by kernel_rfl) (by kernel_rfl) (by kernel_rfl) (by simp [Act.put]) hS.out ?_
          apply Exists.intro
          refine And.intro (fun w' hS' => ?_) ?_
          · go_wp2
            first
              | exact ⟨trivial, rfl⟩
              | exact rfl
          refine pl_take (i := 3) 42 rfl rfl rfl (by kernel_rfl) (by kernel_rfl) (by kernel_rfl) (by simp [Act.put]) hS.out ?_
          apply Exists.intro
          refine And.intro (fun w' hS' => ?_) ?_
          · go_wp2
            first
              | exact ⟨trivial, rfl⟩
              | exact rfl
          try rw [Q1.out]
          try rw [N1.out]
          refine pl_take (i := 4) 43 rfl rfl rfl (by kernel_rfl) (by kernel_rfl) (by kernel_rfl) (by simp [Act.put]) hS.out ?_
          apply Exists.intro
          refine And.intro (fun w' hS' => ?_) ?_
          · go_wp2
            first
              | exact ⟨trivial, rfl⟩
              | exact rfl
          refine pl_take (i := 5) 44 rfl rfl rfl (by kernel_rfl) (by kernel_rfl) (by kernel_rfl) (by simp [Act.put]) hS.out ?_
          apply Exists.intro
          refine And.intro (fun w' hS' => ?_) ?_
          · refine wpList_unguard' rfl ?_
            clear hS'
            go_wp2
            first
              | exact ⟨trivial, rfl⟩
              | exact rfl
          refine pl_take (i := 6) 45 rfl rfl rfl (by kernel_rfl) (by kernel_rfl) (by kernel_rfl) (by simp [Act.put]) hS.out ?_
          apply Exists.intro
          refine And.intro (fun w' hS' => ?_) ?_
          · refine wpList_unguard' rfl ?_
            clear hS'
            go_wp2
            first
              | exact ⟨trivial, rfl⟩
              | exact rfl
          refine pl_take (i := 7) 46 rfl rfl rfl (by kernel_rfl) (by kernel_rfl) (by kernel_rfl) (by simp [Act.put]) hS.out ?_
          apply Exists.intro
          refine And.intro (fun w' hS' => ?_) ?_
          · refine wpList_unguard' rfl ?_
            clear hS'
            go_wp2
            first
              | exact ⟨trivial, rfl⟩
              | exact rfl
          refine pl_take (i := 8) 47 rfl rfl rfl (by kernel_rfl) (by kernel_rfl) (by kernel_rfl) (by simp [Act.put]) hS.out ?_
          apply Exists.intro
          refine And.intro (fun w' hS' => ?_) ?_
          · refine wpList_unguard' rfl ?_
            clear hS'
            go_wp2
            first
              | exact ⟨trivial, rfl⟩
              | exact rfl
          try rw [Q2.out]
          try rw [N2.out]
          refine pl_take (i := 9) 48 rfl rfl rfl (by kernel_rfl) (by kernel_rfl) (by kernel_rfl) (by simp [Act.put]) hS.out ?_
          apply Exists.intro
          refine And.intro (fun w' hS' => ?_) ?_
          · go_wp2
            first
              | exact ⟨trivial, rfl⟩
              | exact rfl
          refine pl_take (i := 10) 49 rfl rfl rfl (by kernel_rfl) (by kernel_rfl) (by kernel_rfl) (by simp [Act.put]) hS.out ?_
          apply Exists.intro
          refine And.intro (fun w' hS' => ?_) ?_
          · go_wp2
            first
              | exact ⟨trivial, rfl⟩
              | exact rfl
          refine pl_take (i := 11) 50 rfl rfl rfl (by kernel_rfl) (by kernel_rfl) (by kernel_rfl) (by simp [Act.put]) hS.out ?_
          apply Exists.intro
          refine And.intro (fun w' hS' => ?_) ?_
          · refine wpList_unguard' rfl ?_
            clear hS'
            go_wp2
            first
              | exact ⟨trivial, rfl⟩
              | exact rfl
          refine pl_take (i := 12) 51 rfl rfl rfl (by kernel_rfl) (by kernel_rfl) (by kernel_rfl) (by simp [Act.put]) hS.out ?_
          apply Exists.intro
          refine And.intro (fun w' hS' => ?_) ?_
          · refine wpList_unguard' rfl ?_
            clear hS'
            go_wp2
            first
              | exact ⟨trivial, rfl⟩
              | exact rfl
          refine pl_take (i := 13) 52 rfl rfl rfl (by kernel_rfl) (by kernel_rfl) (by kernel_rfl) (by simp [Act.put]) hS.out ?_
          apply Exists.intro
          refine And.intro (fun w' hS' => ?_) ?_
          · refine wpList_unguard' rfl ?_
            clear hS'
            go_wp2
            first
              | exact ⟨trivial, rfl⟩
              | exact rfl
          refine pl_take (i := 14) 53 rfl rfl rfl (by kernel_rfl) (by kernel_rfl) (by kernel_rfl) (by simp [Act.put]) hS.out ?_
          apply Exists.intro
          refine And.intro (fun w' hS' => ?_) ?_
          · refine wpList_unguard' rfl ?_
            refine wpList_load_agg rfl 24 (.tmp 52) rfl (ad.add (k * 32)) rfl (bvs x) _ (hS'.1.elem' HXY.out.1) Try.underlying24 rfl (by rw [bvs_length, HXY.out.2.2.1]; exact infoHash) ?_
            clear hS'
            go_wp2
            exact ⟨trivial, rfl⟩
          refine pl_take (i := 15) 54 rfl rfl rfl (by kernel_rfl) (by kernel_rfl) (by kernel_rfl) (by simp [Act.put]) hS.out ?_
          apply Exists.intro
          refine And.intro (fun w' hS' => ?_) ?_
          · refine wpList_unguard' rfl ?_
            clear hS'
            go_wp2
            first
              | exact ⟨trivial, rfl⟩
              | exact rfl
          refine pl_take (i := 16) 55 rfl rfl rfl (by kernel_rfl) (by kernel_rfl) (by kernel_rfl) (by simp [Act.put]) hS.out ?_
          apply Exists.intro
          refine And.intro (fun w' hS' => ?_) ?_
          · refine wpList_unguard' rfl ?_
            clear hS'
            go_wp2
            first
              | exact ⟨trivial, rfl⟩
              | exact rfl
          refine pl_take (i := 17) 56 rfl rfl rfl (by kernel_rfl) (by kernel_rfl) (by kernel_rfl) (by simp [Act.put]) hS.out ?_
          apply Exists.intro
          refine And.intro (fun w' hS' => ?_) ?_
          · refine wpList_unguard' rfl ?_
            clear hS'
            go_wp2
            first
              | exact ⟨trivial, rfl⟩
              | exact rfl
          refine pl_take (i := 18) 57 rfl rfl rfl (by kernel_rfl) (by kernel_rfl) (by kernel_rfl) (by simp [Act.put]) hS.out ?_
          apply Exists.intro
          refine And.intro (fun w' hS' => ?_) ?_
          · refine wpList_unguard' rfl ?_
            refine wpList_load_agg rfl 24 (.tmp 56) rfl (bd.add (k * 32)) rfl (bvs y) _ (hS'.2.elem' HXY.out.2.1) Try.underlying24 rfl (by rw [bvs_length, HXY.out.2.2.2]; exact infoHash) ?_
            clear hS'
            go_wp2
            exact ⟨trivial, rfl⟩
          refine pl_take (i := 19) 58 rfl rfl rfl (by kernel_rfl) (by kernel_rfl) (by kernel_rfl) (by simp [Act.put]) hS.out ?_
          apply Exists.intro
          refine And.intro (fun w' hS' => ?_) ?_
          · refine wpList_unguard' rfl ?_
            refine wpList_bin rfl .eql 24 24 (.tmp 53) (.tmp 57) rfl (.bool false) (eqGuard_agg _ _ _ _ _ _ _ (by kernel_rfl)) ((hash_eq w' x y HXY.out.2.2.1 HXY.out.2.2.2).trans (by rw [QX.out])) ?_
            clear hS'
            go_wp2
            exact ⟨trivial, rfl⟩
          refine pl_take (i := 20) 59 rfl rfl rfl (by kernel_rfl) (by kernel_rfl) (by kernel_rfl) (by simp [Act.put]) hS.out ?_
          apply Exists.intro
          refine And.intro (fun w' hS' => ?_) ?_
          · go_wp2
            first
              | exact ⟨trivial, rfl⟩
              | exact rfl
          refine pl_done (by kernel_rfl) ?_
          go_wp2_with fail
          refine (CP.out w4 k hS.out.1 (PK.out.2.2)).mono ?_
          rintro e w5 ⟨v5, rfl, p5, b5⟩
          obtain ⟨a5, k5, rfl⟩ := p5.slice
          obtain ⟨q5, hq5⟩ : ∃ q, q = (pathM knotB [] 20 k (l.map leafB)).length := ⟨_, rfl⟩
          rw [← hq5]
          have PV : Hid (Hs w5 (.slice a5 q5 k5) (pathB k l)) := Lib.hid (by rw [hq5]; exact p5)
          clear p5 hq5
          replace hS := Lib.hid (And.intro (hS.out.1.fresh b5) (hS.out.2.fresh b5))
          replace BB := Lib.hid (BB.out.tr b5)
          clear b5
          go_wp2_with (with_reducible refine stopStore 92 ?_)
          refine Stop.go ?_
          obtain ⟨G, hG⟩ : ∃ G, G = w5.heap.size := ⟨_, rfl⟩
          rw [← hG]
          refine wpList_store_var rfl 92 (.tmp 6) (.tmp 70) rfl G _ rfl _ [.int .i64 (k : Int), .int .i64 (N : Int), .slice a5 q5 k5] rfl (by rw [hG]; exact heap_alloc_new w5 _) (by simp) (by intro u hu; simp at hu; rcases hu with rfl | rfl | rfl <;> rfl) (by exact infoPath) ?_
          intro w6 k6 o6
          have b6 : Below w5.heap.size w5 w6 := Below.only ((Below.refl _ w5).alloc (Nat.le_refl _) _) o6 (by omega)
          have k6' : CB w6 92 G [.int .i64 (k : Int), .int .i64 (N : Int), .slice a5 q5 k5] := k6
          replace hS := Lib.hid (And.intro (hS.out.1.fresh b6.drew) (And.intro (k6'.fresh (show Below w6.heap.size w6 w6.drew from (Below.refl _ w6).drew)) (hS.out.2.fresh b6.drew)))
          replace BB := Lib.hid (BB.out.tr b6).drew
          replace PV := Lib.hid (PV.out.fresh b6.drew)
          clear k6 k6' o6 b6 hG
          go_wp2_with fail
          refine pl_start 16 rfl (fun w' => Hs w' (.slice (some ad) N c0) l ∧ CB w' 92 G [.int .i64 (k : Int), .int .i64 (N : Int), .slice a5 q5 k5] ∧ Hs w' (.slice (some bd) M c1) m) (by kernel_rfl) ?_
          obtain ⟨w7, hw7⟩ : ∃ w7, w7 = w6.drew := ⟨_, rfl⟩
          rw [← hw7] at hS BB PV ⊢
          clear hw7
          refine pl_take (i := 0) 72 rfl rfl rfl (by kernel_rfl) (by kernel_rfl) (by kernel_rfl) (by simp [Act.put]) hS.out ?_
          apply Exists.intro
          refine And.intro (fun w' hS' => ?_) ?_
          · go_wp2
            first
              | exact ⟨trivial, rfl⟩
              | exact rfl
          refine pl_heavy (i := 1) rfl (by kernel_rfl) ?_
          go_wp2_with fail
          refine (ynum_any w7 _).mono ?_
          rintro e w8 ⟨rfl, rfl⟩
          go_wp2
          refine And.intro hS.out ?_
          refine pl_take (i := 2) 74 rfl rfl rfl (by kernel_rfl) (by kernel_rfl) (by kernel_rfl) (by simp [Act.put]) hS.out ?_
          apply Exists.intro
          refine And.intro (fun w' hS' => ?_) ?_
          · go_wp2
            first
              | exact ⟨trivial, rfl⟩
              | exact rfl
          refine pl_take (i := 3) 75 rfl rfl rfl (by kernel_rfl) (by kernel_rfl) (by kernel_rfl) (by simp [Act.put]) hS.out ?_
          apply Exists.intro
          refine And.intro (fun w' hS' => ?_) ?_
          · go_wp2
            first
              | exact ⟨trivial, rfl⟩
              | exact rfl
          refine pl_take (i := 4) 76 rfl rfl rfl (by kernel_rfl) (by kernel_rfl) (by kernel_rfl) (by simp [Act.put]) hS.out ?_
          apply Exists.intro
          refine And.intro (fun w' hS' => ?_) ?_
          · refine wpList_unguard' rfl ?_
            clear hS'
            go_wp2
            first
              | exact ⟨trivial, rfl⟩
              | exact rfl
          refine pl_take (i := 5) 77 rfl rfl rfl (by kernel_rfl) (by kernel_rfl) (by kernel_rfl) (by simp [Act.put]) hS.out ?_
          apply Exists.intro
          refine And.intro (fun w' hS' => ?_) ?_
          · refine wpList_unguard' rfl ?_
            clear hS'
            go_wp2
            first
              | exact ⟨trivial, rfl⟩
              | exact rfl
          refine pl_take (i := 6) 78 rfl rfl rfl (by kernel_rfl) (by kernel_rfl) (by kernel_rfl) (by simp [Act.put]) hS.out ?_
          apply Exists.intro
          refine And.intro (fun w' hS' => ?_) ?_
          · refine wpList_unguard' rfl ?_
            clear hS'
            go_wp2
            first
              | exact ⟨trivial, rfl⟩
              | exact rfl
          refine pl_take (i := 7) 79 rfl rfl rfl (by kernel_rfl) (by kernel_rfl) (by kernel_rfl) (by simp [Act.put]) hS.out ?_
          apply Exists.intro
          refine And.intro (fun w' hS' => ?_) ?_
          · refine wpList_unguard' rfl ?_
            refine wpList_load_agg rfl 24 (.tmp 78) rfl (ad.add (k * 32)) rfl (bvs x) _ (hS'.1.elem' PK.out.1) Try.underlying24 rfl (by rw [bvs_length, PK.out.2.1]; exact infoHash) ?_
            clear hS'
            go_wp2
            exact ⟨trivial, rfl⟩
          refine pl_take (i := 8) 80 rfl rfl rfl (by kernel_rfl) (by kernel_rfl) (by kernel_rfl) (by simp [Act.put]) hS.out ?_
          apply Exists.intro
          refine And.intro (fun w' hS' => ?_) ?_
          · refine wpList_unguard' rfl ?_
            refine wpList_load_agg rfl 92 (.tmp 6) rfl ⟨G, 0, none⟩ rfl [.int .i64 (k : Int), .int .i64 (N : Int), .slice a5 q5 k5] _ (At.block hS'.2.1).load Try.underlying92 rfl (by exact infoPath) ?_
            clear hS'
            go_wp2
            exact ⟨trivial, rfl⟩
          refine pl_take (i := 9) 81 rfl rfl rfl (by kernel_rfl) (by kernel_rfl) (by kernel_rfl) (by simp [Act.put]) hS.out ?_
          apply Exists.intro
          refine And.intro (fun w' hS' => ?_) ?_
          · refine wpList_unguard' rfl ?_
            clear hS'
            go_wp2
            first
              | exact ⟨trivial, rfl⟩
              | exact rfl
          have CT := Lib.hid (ytold_any w8 (.slice a5 q5 k5) (.slice (some bd) M c1) x (k : Int) (N : Int) (pathB k l) m PK.out.2.1 PV.out hS.out.2.2 HM.out)
          rw [TOLD.out] at CT
          refine pl_heavy (i := 10) rfl (by kernel_rfl) ?_
          refine wpList_unguard' rfl ?_
          go_wp2_with fail
          refine (CT.out).mono ?_
          rintro e w9 ⟨rfl, b9⟩
          replace hS := Lib.hid (And.intro (hS.out.1.fresh b9) (And.intro (hS.out.2.1.fresh b9) (hS.out.2.2.fresh b9)))
          replace BB := Lib.hid (BB.out.tr b9)
          clear b9
          go_wp2
          refine And.intro hS.out ?_
          refine pl_take (i := 11) 83 rfl rfl rfl (by kernel_rfl) (by kernel_rfl) (by kernel_rfl) (by simp [Act.put]) hS.out ?_
          apply Exists.intro
          refine And.intro (fun w' hS' => ?_) ?_
          · go_wp2
            first
              | exact ⟨trivial, rfl⟩
              | exact rfl
          refine pl_take (i := 12) 84 rfl rfl rfl (by kernel_rfl) (by kernel_rfl) (by kernel_rfl) (by simp [Act.put]) hS.out ?_
          apply Exists.intro
          refine And.intro (fun w' hS' => ?_) ?_
          · go_wp2
            first
              | exact ⟨trivial, rfl⟩
              | exact rfl
          refine pl_heavy (i := 13) rfl (by kernel_rfl) ?_
          refine wpList_unguard' rfl ?_
          go_wp2_with fail
          refine (yknown_any _).mono ?_
          rintro e w10 ⟨rfl, b10⟩
          replace hS := Lib.hid (And.intro (hS.out.1.fresh b10) (And.intro (hS.out.2.1.fresh b10) (hS.out.2.2.fresh b10)))
          replace BB := Lib.hid (BB.out.tr b10)
          clear b10
          go_wp2
          refine And.intro hS.out ?_
          refine pl_take (i := 14) 86 rfl rfl rfl (by kernel_rfl) (by kernel_rfl) (by kernel_rfl) (by simp [Act.put]) hS.out ?_
          apply Exists.intro
          refine And.intro (fun w' hS' => ?_) ?_
          · go_wp2
            first
              | exact ⟨trivial, rfl⟩
              | exact rfl
          refine pl_take (i := 15) 4 rfl rfl rfl (by kernel_rfl) (by kernel_rfl) (by kernel_rfl) (by simp [Act.put]) hS.out ?_
          apply Exists.intro
          refine And.intro (fun w' hS' => ?_) ?_
          · go_wp2
            first
              | exact ⟨trivial, rfl⟩
              | exact rfl
          refine pl_done (by kernel_rfl) ?_
          go_wp2
          go_ret
          exact ⟨rfl, BB.out⟩
        · have QX := Lib.hid hxy
          clear hxy
          have hS : Hid (Hs wr.drew (.slice (some ad) N c0) l ∧ Hs wr.drew (.slice (some bd) M c1) m) := Lib.hid ⟨HA.out.fresh BB.out.drew, HB.out.fresh BB.out.drew⟩
          replace BB := Lib.hid BB.out.drew
          go_wp2_with fail
          refine pl_start 21 rfl (fun w' => Hs w' (.slice (some ad) N c0) l ∧ Hs w' (.slice (some bd) M c1) m) (by kernel_rfl) ?_
          obtain ⟨w4, hw4⟩ : ∃ w4, w4 = wr.drew := ⟨_, rfl⟩
          rw [← hw4] at hS BB ⊢
          clear hw4
          refine pl_take (i := 0) 39 rfl rfl rfl (by kernel_rfl) (by kernel_rfl) (by kernel_rfl) (by simp [Act.put]) hS.out ?_
          apply Exists.intro
          refine And.intro (fun w' hS' => ?_) ?_
          · go_wp2
            first
              | exact ⟨trivial, rfl⟩
              | exact rfl
          refine pl_take (i := 1) 40 rfl rfl rfl (by kernel_rfl) (by kernel_rfl) (by kernel_rfl) (by simp [Act.put]) hS.out ?_
          apply Exists.intro
          refine And.intro (fun w' hS' => ?_) ?_
          · go_wp2
            first
              | exact ⟨trivial, rfl⟩
              | exact rfl
          refine pl_take (i := 2) 41 rfl rfl rfl (by kernel_rfl) (by kernel_rfl) (by kernel_rfl) (by simp [Act.put]) hS.out ?_
          apply Exists.intro
          refine And.intro (fun w' hS' => ?_) ?_
          · go_wp2
            first
              | exact ⟨trivial, rfl⟩
              | exact rfl
          refine pl_take (i := 3) 42 rfl rfl rfl (by kernel_rfl) (by kernel_rfl) (by kernel_rfl) (by simp [Act.put]) hS.out ?_
          apply Exists.intro
          refine And.intro (fun w' hS' => ?_) ?_
          · go_wp2
            first
              | exact ⟨trivial, rfl⟩
              | exact rfl
          try rw [Q1.out]
          try rw [N1.out]
          refine pl_take (i := 4) 43 rfl rfl rfl (by kernel_rfl) (by kernel_rfl) (by kernel_rfl) (by simp [Act.put]) hS.out ?_
          apply Exists.intro
          refine And.intro (fun w' hS' => ?_) ?_
          · go_wp2
            first
              | exact ⟨trivial, rfl⟩
              | exact rfl
          refine pl_take (i := 5) 44 rfl rfl rfl (by kernel_rfl) (by kernel_rfl) (by kernel_rfl) (by simp [Act.put]) hS.out ?_
          apply Exists.intro
          refine And.intro (fun w' hS' => ?_) ?_
          · refine wpList_unguard' rfl ?_
            clear hS'
            go_wp2
            first
              | exact ⟨trivial, rfl⟩
              | exact rfl
          refine pl_take (i := 6) 45 rfl rfl rfl (by kernel_rfl) (by kernel_rfl) (by kernel_rfl) (by simp [Act.put]) hS.out ?_
          apply Exists.intro
          refine And.intro (fun w' hS' => ?_) ?_
          · refine wpList_unguard' rfl ?_
            clear hS'
            go_wp2
            first
              | exact ⟨trivial, rfl⟩
              | exact rfl
          refine pl_take (i := 7) 46 rfl rfl rfl (by kernel_rfl) (by kernel_rfl) (by kernel_rfl) (by simp [Act.put]) hS.out ?_
          apply Exists.intro
          refine And.intro (fun w' hS' => ?_) ?_
          · refine wpList_unguard' rfl ?_
            clear hS'
            go_wp2
            first
              | exact ⟨trivial, rfl⟩
              | exact rfl
          refine pl_take (i := 8) 47 rfl rfl rfl (by kernel_rfl) (by kernel_rfl) (by kernel_rfl) (by simp [Act.put]) hS.out ?_
          apply Exists.intro
          refine And.intro (fun w' hS' => ?_) ?_
          · refine wpList_unguard' rfl ?_
            clear hS'
            go_wp2
            first
              | exact ⟨trivial, rfl⟩
              | exact rfl
          try rw [Q2.out]
          try rw [N2.out]
          refine pl_take (i := 9) 48 rfl rfl rfl (by kernel_rfl) (by kernel_rfl) (by kernel_rfl) (by simp [Act.put]) hS.out ?_
          apply Exists.intro
          refine And.intro (fun w' hS' => ?_) ?_
          · go_wp2
            first
              | exact ⟨trivial, rfl⟩
              | exact rfl
          refine pl_take (i := 10) 49 rfl rfl rfl (by kernel_rfl) (by kernel_rfl) (by kernel_rfl) (by simp [Act.put]) hS.out ?_
          apply Exists.intro
          refine And.intro (fun w' hS' => ?_) ?_
          · go_wp2
            first
              | exact ⟨trivial, rfl⟩
              | exact rfl
          refine pl_take (i := 11) 50 rfl rfl rfl (by kernel_rfl) (by kernel_rfl) (by kernel_rfl) (by simp [Act.put]) hS.out ?_
          apply Exists.intro
          refine And.intro (fun w' hS' => ?_) ?_
          · refine wpList_unguard' rfl ?_
            clear hS'
            go_wp2
            first
              | exact ⟨trivial, rfl⟩
              | exact rfl
          refine pl_take (i := 12) 51 rfl rfl rfl (by kernel_rfl) (by kernel_rfl) (by kernel_rfl) (by simp [Act.put]) hS.out ?_
          apply Exists.intro
          refine And.intro (fun w' hS' => ?_) ?_
          · refine wpList_unguard' rfl ?_
            clear hS'
            go_wp2
            first
              | exact ⟨trivial, rfl⟩
              | exact rfl
          refine pl_take (i := 13) 52 rfl rfl rfl (by kernel_rfl) (by kernel_rfl) (by kernel_rfl) (by simp [Act.put]) hS.out ?_
          apply Exists.intro
          refine And.intro (fun w' hS' => ?_) ?_
          · refine wpList_unguard' rfl ?_
            clear hS'
            go_wp2
            first
              | exact ⟨trivial, rfl⟩
              | exact rfl
          refine pl_take (i := 14) 53 rfl rfl rfl (by kernel_rfl) (by kernel_rfl) (by kernel_rfl) (by simp [Act.put]) hS.out ?_
          apply Exists.intro
          refine And.intro (fun w' hS' => ?_) ?_
          · refine wpList_unguard' rfl ?_
            refine wpList_load_agg rfl 24 (.tmp 52) rfl (ad.add (k * 32)) rfl (bvs x) _ (hS'.1.elem' HXY.out.1) Try.underlying24 rfl (by rw [bvs_length, HXY.out.2.2.1]; exact infoHash) ?_
            clear hS'
            go_wp2
            exact ⟨trivial, rfl⟩
          refine pl_take (i := 15) 54 rfl rfl rfl (by kernel_rfl) (by kernel_rfl) (by kernel_rfl) (by simp [Act.put]) hS.out ?_
          apply Exists.intro
          refine And.intro (fun w' hS' => ?_) ?_
          · refine wpList_unguard' rfl ?_
            clear hS'
            go_wp2
            first
              | exact ⟨trivial, rfl⟩
              | exact rfl
          refine pl_take (i := 16) 55 rfl rfl rfl (by kernel_rfl) (by kernel_rfl) (by kernel_rfl) (by simp [Act.put]) hS.out ?_
          apply Exists.intro
          refine And.intro (fun w' hS' => ?_) ?_
          · refine wpList_unguard' rfl ?_
            clear hS'
            go_wp2
            first
              | exact ⟨trivial, rfl⟩
              | exact rfl
          refine pl_take (i := 17) 56 rfl rfl rfl (by kernel_rfl) (by kernel_rfl) (by kernel_rfl) (by simp [Act.put]) hS.out ?_
          apply Exists.intro
          refine And.intro (fun w' hS' => ?_) ?_
          · refine wpList_unguard' rfl ?_
            clear hS'
            go_wp2
            first
              | exact ⟨trivial, rfl⟩
              | exact rfl
          refine pl_take (i := 18) 57 rfl rfl rfl (by kernel_rfl) (by kernel_rfl) (by kernel_rfl) (by simp [Act.put]) hS.out ?_
          apply Exists.intro
          refine And.intro (fun w' hS' => ?_) ?_
          · refine wpList_unguard' rfl ?_
            refine wpList_load_agg rfl 24 (.tmp 56) rfl (bd.add (k * 32)) rfl (bvs y) _ (hS'.2.elem' HXY.out.2.1) Try.underlying24 rfl (by rw [bvs_length, HXY.out.2.2.2]; exact infoHash) ?_
            clear hS'
            go_wp2
            exact ⟨trivial, rfl⟩
          refine pl_take (i := 19) 58 rfl rfl rfl (by kernel_rfl) (by kernel_rfl) (by kernel_rfl) (by simp [Act.put]) hS.out ?_
          apply Exists.intro
          refine And.intro (fun w' hS' => ?_) ?_
          · refine wpList_unguard' rfl ?_
            refine wpList_bin rfl .eql 24 24 (.tmp 53) (.tmp 57) rfl (.bool true) (eqGuard_agg _ _ _ _ _ _ _ (by kernel_rfl)) ((hash_eq w' x y HXY.out.2.2.1 HXY.out.2.2.2).trans (by rw [QX.out])) ?_
            clear hS'
            go_wp2
            exact ⟨trivial, rfl⟩
          refine pl_take (i := 20) 59 rfl rfl rfl (by kernel_rfl) (by kernel_rfl) (by kernel_rfl) (by simp [Act.put]) hS.out ?_
          apply Exists.intro
          refine And.intro (fun w' hS' => ?_) ?_
          · go_wp2
            first
              | exact ⟨trivial, rfl⟩
              | exact rfl
          refine pl_done (by kernel_rfl) ?_
          have HT' := Lib.hid (take_next' HXY.out.1 HXY.out.2.1 HT.out.1 QX.out)
          go_wp2
          go_roundw
          case rel => exact ⟨BB.out, k + 1, HK.out.1, HK.out.2, by go_num, HT'.out⟩
          case measure => simp only [RowKit.intOf]; have := HK.out; omega
      · have Q2 : Hid (decide ((k : Int) < (M : Int)) = false) := Lib.hid (decide_eq_false (by omega))
        have N2 : Hid (decide (k < M) = false) := Lib.hid (decide_eq_false (by omega))
        have ik3 : ¬ ((k : Int) < (M : Int)) := by omega
        have TOLD : Hid (collB m x (k : Int) (N : Int) (pathB k l) = true) := Lib.hid (by
          rw [HQ.out.1]
          exact lists_told HQ.out.2.2.1 (by have := HQ.out.2.2.2.2.1.1; have := HQ.out.1; omega) hx (fun e => absurd h1 (by have := HQ.out.1; have := HQ.out.2.1; omega)))
        clear hx h1 h2 hkN hkM
        have hS : Hid (Hs wr.drew (.slice (some ad) N c0) l ∧ Hs wr.drew (.slice (some bd) M c1) m) := Lib.hid ⟨HA.out.fresh BB.out.drew, HB.out.fresh BB.out.drew⟩
        replace BB := Lib.hid BB.out.drew
        go_wp2_with fail
        refine pl_start 21 rfl (fun w' => Hs w' (.slice (some ad) N c0) l ∧ Hs w' (.slice (some bd) M c1) m) (by kernel_rfl) ?_
        obtain ⟨w4, hw4⟩ : ∃ w4, w4 = wr.drew := ⟨_, rfl⟩
        rw [← hw4] at hS BB ⊢
        clear hw4
        refine pl_take (i := 0) 39 rfl rfl rfl (by kernel_rfl) (by kernel_rfl) (by kernel_rfl) (by simp [Act.put]) hS.out ?_
        apply Exists.intro
        refine And.intro (fun w' hS' => ?_) ?_
        · go_wp2
          first
            | exact ⟨trivial, rfl⟩
            | exact rfl
        refine pl_take (i := 1) 40 rfl rfl rfl (by kernel_rfl) (by kernel_rfl) (by kernel_rfl) (by simp [Act.put]) hS.out ?_
        apply Exists.intro
        refine And.intro (fun w' hS' => ?_) ?_
        · go_wp2
          first
            | exact ⟨trivial, rfl⟩
            | exact rfl
        refine pl_take (i := 2) 41 rfl rfl rfl (by kernel_rfl) (by kernel_rfl) (by kernel_rfl) (by simp [Act.put]) hS.out ?_
        apply Exists.intro
        refine And.intro (fun w' hS' => ?_) ?_
        · go_wp2
          first
            | exact ⟨trivial, rfl⟩
            | exact rfl
        refine pl_take (i := 3) 42 rfl rfl rfl (by kernel_rfl) (by kernel_rfl) (by kernel_rfl) (by simp [Act.put]) hS.out ?_
        apply Exists.intro
        refine And.intro (fun w' hS' => ?_) ?_
        · go_wp2
          first
            | exact ⟨trivial, rfl⟩
            | exact rfl
        try rw [Q1.out]
        try rw [N1.out]
        refine pl_take (i := 4) 43 rfl rfl rfl (by kernel_rfl) (by kernel_rfl) (by kernel_rfl) (by simp [Act.put]) hS.out ?_
        apply Exists.intro
        refine And.intro (fun w' hS' => ?_) ?_
        · go_wp2
          first
            | exact ⟨trivial, rfl⟩
            | exact rfl
        refine pl_take (i := 5) 44 rfl rfl rfl (by kernel_rfl) (by kernel_rfl) (by kernel_rfl) (by simp [Act.put]) hS.out ?_
        apply Exists.intro
        refine And.intro (fun w' hS' => ?_) ?_
        · refine wpList_unguard' rfl ?_
          clear hS'
          go_wp2
          first
            | exact ⟨trivial, rfl⟩
            | exact rfl
        refine pl_take (i := 6) 45 rfl rfl rfl (by kernel_rfl) (by kernel_rfl) (by kernel_rfl) (by simp [Act.put]) hS.out ?_
        apply Exists.intro
        refine And.intro (fun w' hS' => ?_) ?_
        · refine wpList_unguard' rfl ?_
          clear hS'
          go_wp2
          first
            | exact ⟨trivial, rfl⟩
            | exact rfl
        refine pl_take (i := 7) 46 rfl rfl rfl (by kernel_rfl) (by kernel_rfl) (by kernel_rfl) (by simp [Act.put]) hS.out ?_
        apply Exists.intro
        refine And.intro (fun w' hS' => ?_) ?_
        · refine wpList_unguard' rfl ?_
          clear hS'
          go_wp2
          first
            | exact ⟨trivial, rfl⟩
            | exact rfl
        refine pl_take (i := 8) 47 rfl rfl rfl (by kernel_rfl) (by kernel_rfl) (by kernel_rfl) (by simp [Act.put]) hS.out ?_
        apply Exists.intro
        refine And.intro (fun w' hS' => ?_) ?_
        · refine wpList_unguard' rfl ?_
          clear hS'
          go_wp2
          first
            | exact ⟨trivial, rfl⟩
            | exact rfl
        try rw [Q2.out]
        try rw [N2.out]
        refine pl_take (i := 9) 48 rfl rfl rfl (by kernel_rfl) (by kernel_rfl) (by kernel_rfl) (by simp [Act.put]) hS.out ?_
        apply Exists.intro
        refine And.intro (fun w' hS' => ?_) ?_
        · go_wp2
          first
            | exact ⟨trivial, rfl⟩
            | exact rfl
        refine pl_take (i := 10) 49 rfl rfl rfl (by kernel_rfl) (by kernel_rfl) (by kernel_rfl) (by simp [Act.put]) hS.out ?_
        apply Exists.intro
        refine And.intro (fun w' hS' => ?_) ?_
        · go_wp2
          first
            | exact ⟨trivial, rfl⟩
            | exact rfl
        refine pl_skip (i := 11) rfl (by kernel_rfl) (by kernel_rfl) (by kernel_rfl) (by kernel_rfl) hS.out ?_
        apply Exists.intro
        refine And.intro (by simp [Act.put, go_sem]; rfl) ?_
        refine pl_skip (i := 12) rfl (by kernel_rfl) (by kernel_rfl) (by kernel_rfl) (by kernel_rfl) hS.out ?_
        apply Exists.intro
        refine And.intro (by simp [Act.put, go_sem]; rfl) ?_
        refine pl_skip (i := 13) rfl (by kernel_rfl) (by kernel_rfl) (by kernel_rfl) (by kernel_rfl) hS.out ?_
        apply Exists.intro
        refine And.intro (by simp [Act.put, go_sem]; rfl) ?_
        refine pl_skip (i := 14) rfl (by kernel_rfl) (by kernel_rfl) (by kernel_rfl) (by kernel_rfl) hS.out ?_
        apply Exists.intro
        refine And.intro (by simp [Act.put, go_sem]; rfl) ?_
        refine pl_skip (i := 15) rfl (by kernel_rfl) (by kernel_rfl) (by kernel_rfl) (by kernel_rfl) hS.out ?_
        apply Exists.intro
        refine And.intro (by simp [Act.put, go_sem]; rfl) ?_
        refine pl_skip (i := 16) rfl (by kernel_rfl) (by kernel_rfl) (by kernel_rfl) (by kernel_rfl) hS.out ?_
        apply Exists.intro
        refine And.intro (by simp [Act.put, go_sem]; rfl) ?_
        refine pl_skip (i := 17) rfl (by kernel_rfl) (by kernel_rfl) (by kernel_rfl) (by kernel_rfl) hS.out ?_
        apply Exists.intro
        refine And.intro (by simp [Act.put, go_sem]; rfl) ?_
        refine pl_skip (i := 18) rfl (by kernel_rfl) (by kernel_rfl) (by kernel_rfl) (by kernel_rfl) hS.out ?_
        apply Exists.intro
        refine And.intro (by simp [Act.put, go_sem]; rfl) ?_
        refine pl_skip (i := 19) rfl (by kernel_rfl) (by kernel_rfl) (by kernel_rfl) (by kernel_rfl) hS.out ?_
        apply Exists.intro
        refine And.intro (by simp [Act.put, go_sem]; rfl) ?_
        refine pl_take (i := 20) 59 rfl rfl rfl (by kernel_rfl) (by kernel_rfl) (by kernel_rfl) (by simp [Act.put]) hS.out ?_
        apply Exists.intro
        refine And.intro (fun w' hS' => ?_) ?_
        · go_wp2
          first
            | exact ⟨trivial, rfl⟩
            | exact rfl
        refine pl_done (by kernel_rfl) ?_
        go_wp2_with fail
        refine (CP.out w4 k hS.out.1 (PK.out.2.2)).mono ?_
        rintro e w5 ⟨v5, rfl, p5, b5⟩
        obtain ⟨a5, k5, rfl⟩ := p5.slice
        obtain ⟨q5, hq5⟩ : ∃ q, q = (pathM knotB [] 20 k (l.map leafB)).length := ⟨_, rfl⟩
        rw [← hq5]
        have PV : Hid (Hs w5 (.slice a5 q5 k5) (pathB k l)) := Lib.hid (by rw [hq5]; exact p5)
        clear p5 hq5
        replace hS := Lib.hid (And.intro (hS.out.1.fresh b5) (hS.out.2.fresh b5))
        replace BB := Lib.hid (BB.out.tr b5)
        clear b5
        go_wp2_with (with_reducible refine stopStore 92 ?_)
        refine Stop.go ?_
        obtain ⟨G, hG⟩ : ∃ G, G = w5.heap.size := ⟨_, rfl⟩
        rw [← hG]
        refine wpList_store_var rfl 92 (.tmp 6) (.tmp 70) rfl G _ rfl _ [.int .i64 (k : Int), .int .i64 (N : Int), .slice a5 q5 k5] rfl (by rw [hG]; exact heap_alloc_new w5 _) (by simp) (by intro u hu; simp at hu; rcases hu with rfl | rfl | rfl <;> rfl) (by exact infoPath) ?_
        intro w6 k6 o6
        have b6 : Below w5.heap.size w5 w6 := Below.only ((Below.refl _ w5).alloc (Nat.le_refl _) _) o6 (by omega)
        have k6' : CB w6 92 G [.int .i64 (k : Int), .int .i64 (N : Int), .slice a5 q5 k5] := k6
        replace hS := Lib.hid (And.intro (hS.out.1.fresh b6.drew) (And.intro (k6'.fresh (show Below w6.heap.size w6 w6.drew from (Below.refl _ w6).drew)) (hS.out.2.fresh b6.drew)))
        replace BB := Lib.hid (BB.out.tr b6).drew
        replace PV := Lib.hid (PV.out.fresh b6.drew)
        clear k6 k6' o6 b6 hG
        go_wp2_with fail
        refine pl_start 16 rfl (fun w' => Hs w' (.slice (some ad) N c0) l ∧ CB w' 92 G [.int .i64 (k : Int), .int .i64 (N : Int), .slice a5 q5 k5] ∧ Hs w' (.slice (some bd) M c1) m) (by kernel_rfl) ?_
        obtain ⟨w7, hw7⟩ : ∃ w7, w7 = w6.drew := ⟨_, rfl⟩
        rw [← hw7] at hS BB PV ⊢
        clear hw7
        refine pl_take (i := 0) 72 rfl rfl rfl (by kernel_rfl) (by kernel_rfl) (by kernel_rfl) (by simp [Act.put]) hS.out ?_
        apply Exists.intro
        refine And.intro (fun w' hS' => ?_) ?_
        · go_wp2
          first
            | exact ⟨trivial, rfl⟩
            | exact rfl
        refine pl_heavy (i := 1) rfl (by kernel_rfl) ?_
        go_wp2_with fail
        refine (ynum_any w7 _).mono ?_
        rintro e w8 ⟨rfl, rfl⟩
        go_wp2
        refine And.intro hS.out ?_
        refine pl_take (i := 2) 74 rfl rfl rfl (by kernel_rfl) (by kernel_rfl) (by kernel_rfl) (by simp [Act.put]) hS.out ?_
        apply Exists.intro
        refine And.intro (fun w' hS' => ?_) ?_
        · go_wp2
          first
            | exact ⟨trivial, rfl⟩
            | exact rfl
        refine pl_take (i := 3) 75 rfl rfl rfl (by kernel_rfl) (by kernel_rfl) (by kernel_rfl) (by simp [Act.put]) hS.out ?_
        apply Exists.intro
        refine And.intro (fun w' hS' => ?_) ?_
        · go_wp2
          first
            | exact ⟨trivial, rfl⟩
            | exact rfl
        refine pl_take (i := 4) 76 rfl rfl rfl (by kernel_rfl) (by kernel_rfl) (by kernel_rfl) (by simp [Act.put]) hS.out ?_
        apply Exists.intro
        refine And.intro (fun w' hS' => ?_) ?_
        · refine wpList_unguard' rfl ?_
          clear hS'
          go_wp2
          first
            | exact ⟨trivial, rfl⟩
            | exact rfl
        refine pl_take (i := 5) 77 rfl rfl rfl (by kernel_rfl) (by kernel_rfl) (by kernel_rfl) (by simp [Act.put]) hS.out ?_
        apply Exists.intro
        refine And.intro (fun w' hS' => ?_) ?_
        · refine wpList_unguard' rfl ?_
          clear hS'
          go_wp2
          first
            | exact ⟨trivial, rfl⟩
            | exact rfl
        refine pl_take (i := 6) 78 rfl rfl rfl (by kernel_rfl) (by kernel_rfl) (by kernel_rfl) (by simp [Act.put]) hS.out ?_
        apply Exists.intro
        refine And.intro (fun w' hS' => ?_) ?_
        · refine wpList_unguard' rfl ?_
          clear hS'
          go_wp2
          first
            | exact ⟨trivial, rfl⟩
            | exact rfl
        refine pl_take (i := 7) 79 rfl rfl rfl (by kernel_rfl) (by kernel_rfl) (by kernel_rfl) (by simp [Act.put]) hS.out ?_
        apply Exists.intro
        refine And.intro (fun w' hS' => ?_) ?_
        · refine wpList_unguard' rfl ?_
          refine wpList_load_agg rfl 24 (.tmp 78) rfl (ad.add (k * 32)) rfl (bvs x) _ (hS'.1.elem' PK.out.1) Try.underlying24 rfl (by rw [bvs_length, PK.out.2.1]; exact infoHash) ?_
          clear hS'
          go_wp2
          exact ⟨trivial, rfl⟩
        refine pl_take (i := 8) 80 rfl rfl rfl (by kernel_rfl) (by kernel_rfl) (by kernel_rfl) (by simp [Act.put]) hS.out ?_
        apply Exists.intro
        refine And.intro (fun w' hS' => ?_) ?_
        · refine wpList_unguard' rfl ?_
          refine wpList_load_agg rfl 92 (.tmp 6) rfl ⟨G, 0, none⟩ rfl [.int .i64 (k : Int), .int .i64 (N : Int), .slice a5 q5 k5] _ (At.block hS'.2.1).load Try.underlying92 rfl (by exact infoPath) ?_
          clear hS'
          go_wp2
          exact ⟨trivial, rfl⟩
        refine pl_take (i := 9) 81 rfl rfl rfl (by kernel_rfl) (by kernel_rfl) (by kernel_rfl) (by simp [Act.put]) hS.out ?_
        apply Exists.intro
        refine And.intro (fun w' hS' => ?_) ?_
        · refine wpList_unguard' rfl ?_
          clear hS'
          go_wp2
          first
            | exact ⟨trivial, rfl⟩
            | exact rfl
        have CT := Lib.hid (ytold_any w8 (.slice a5 q5 k5) (.slice (some bd) M c1) x (k : Int) (N : Int) (pathB k l) m PK.out.2.1 PV.out hS.out.2.2 HM.out)
        rw [TOLD.out] at CT
        refine pl_heavy (i := 10) rfl (by kernel_rfl) ?_
        refine wpList_unguard' rfl ?_
        go_wp2_with fail
        refine (CT.out).mono ?_
        rintro e w9 ⟨rfl, b9⟩
        replace hS := Lib.hid (And.intro (hS.out.1.fresh b9) (And.intro (hS.out.2.1.fresh b9) (hS.out.2.2.fresh b9)))
        replace BB := Lib.hid (BB.out.tr b9)
        clear b9
        go_wp2
        refine And.intro hS.out ?_
        refine pl_take (i := 11) 83 rfl rfl rfl (by kernel_rfl) (by kernel_rfl) (by kernel_rfl) (by simp [Act.put]) hS.out ?_
        apply Exists.intro
        refine And.intro (fun w' hS' => ?_) ?_
        · go_wp2
          first
            | exact ⟨trivial, rfl⟩
            | exact rfl
        refine pl_take (i := 12) 84 rfl rfl rfl (by kernel_rfl) (by kernel_rfl) (by kernel_rfl) (by simp [Act.put]) hS.out ?_
        apply Exists.intro
        refine And.intro (fun w' hS' => ?_) ?_
        · go_wp2
          first
            | exact ⟨trivial, rfl⟩
            | exact rfl
        refine pl_heavy (i := 13) rfl (by kernel_rfl) ?_
        refine wpList_unguard' rfl ?_
        go_wp2_with fail
        refine (yknown_any _).mono ?_
        rintro e w10 ⟨rfl, b10⟩
        replace hS := Lib.hid (And.intro (hS.out.1.fresh b10) (And.intro (hS.out.2.1.fresh b10) (hS.out.2.2.fresh b10)))
        replace BB := Lib.hid (BB.out.tr b10)
        clear b10
        go_wp2
        refine And.intro hS.out ?_
        refine pl_take (i := 14) 86 rfl rfl rfl (by kernel_rfl) (by kernel_rfl) (by kernel_rfl) (by simp [Act.put]) hS.out ?_
        apply Exists.intro
        refine And.intro (fun w' hS' => ?_) ?_
        · go_wp2
          first
            | exact ⟨trivial, rfl⟩
            | exact rfl
        refine pl_take (i := 15) 4 rfl rfl rfl (by kernel_rfl) (by kernel_rfl) (by kernel_rfl) (by simp [Act.put]) hS.out ?_
        apply Exists.intro
        refine And.intro (fun w' hS' => ?_) ?_
        · go_wp2
          first
            | exact ⟨trivial, rfl⟩
            | exact rfl
        refine pl_done (by kernel_rfl) ?_
        go_wp2
        go_ret
        exact ⟨rfl, BB.out⟩
    · have Q1 : Hid (decide ((k : Int) < (N : Int)) = false) := Lib.hid (decide_eq_false (by omega))
      have N1 : Hid (decide (k < N) = false) := Lib.hid (decide_eq_false (by omega))
      have ik : ¬ ((k : Int) < (N : Int)) := by omega
      have ik2 : (N : Int) ≤ (k : Int) := by omega
      obtain ⟨x, hx⟩ : ∃ x, l[0]? = some x := ⟨_, List.getElem?_eq_getElem (by rw [← HQ.out.1]; exact HQ.out.2.2.2.2.2.1)⟩
      have PK := Lib.hid (And.intro hx (And.intro (HA.out.1.get hx) HQ.out.2.2.2.2.2.1))
      have TOLD : Hid (collB m x 0 (N : Int) (pathB 0 l) = true) := Lib.hid (by
        rw [HQ.out.1]
        exact lists_told (n := 0) HQ.out.2.2.1 (by have := HQ.out.2.2.2.2.1.1; have := HQ.out.1; omega) hx (fun e => absurd (whole_eq HT.out.1 (by have := HQ.out.1; omega) e) HQ.out.2.2.2.1))
      have ib1 : 0 < N := HQ.out.2.2.2.2.2.1
      have ib0 : (0 : Int) < (N : Int) := by omega
      clear hx h1 hkN hkM
      have hS : Hid (Hs wr.drew (.slice (some ad) N c0) l ∧ Hs wr.drew (.slice (some bd) M c1) m) := Lib.hid ⟨HA.out.fresh BB.out.drew, HB.out.fresh BB.out.drew⟩
      replace BB := Lib.hid BB.out.drew
      go_wp2_with fail
      refine pl_start 21 rfl (fun w' => Hs w' (.slice (some ad) N c0) l ∧ Hs w' (.slice (some bd) M c1) m) (by kernel_rfl) ?_
      obtain ⟨w4, hw4⟩ : ∃ w4, w4 = wr.drew := ⟨_, rfl⟩
      rw [← hw4] at hS BB ⊢
      clear hw4
      refine pl_take (i := 0) 39 rfl rfl rfl (by kernel_rfl) (by kernel_rfl) (by kernel_rfl) (by simp [Act.put]) hS.out ?_
      apply Exists.intro
      refine And.intro (fun w' hS' => ?_) ?_
      · go_wp2
        first
          | exact ⟨trivial, rfl⟩
          | exact rfl
      refine pl_take (i := 1) 40 rfl rfl rfl (by kernel_rfl) (by kernel_rfl) (by kernel_rfl) (by simp [Act.put]) hS.out ?_
      apply Exists.intro
      refine And.intro (fun w' hS' => ?_) ?_
      · go_wp2
        first
          | exact ⟨trivial, rfl⟩
          | exact rfl
      refine pl_take (i := 2) 41 rfl rfl rfl (by kernel_rfl) (by kernel_rfl) (by kernel_rfl) (by simp [Act.put]) hS.out ?_
      apply Exists.intro
      refine And.intro (fun w' hS' => ?_) ?_
      · go_wp2
        first
          | exact ⟨trivial, rfl⟩
          | exact rfl
      refine pl_take (i := 3) 42 rfl rfl rfl (by kernel_rfl) (by kernel_rfl) (by kernel_rfl) (by simp [Act.put]) hS.out ?_
      apply Exists.intro
      refine And.intro (fun w' hS' => ?_) ?_
      · go_wp2
        first
          | exact ⟨trivial, rfl⟩
          | exact rfl
      try rw [Q1.out]
      try rw [N1.out]
      refine pl_take (i := 4) 43 rfl rfl rfl (by kernel_rfl) (by kernel_rfl) (by kernel_rfl) (by simp [Act.put]) hS.out ?_
      apply Exists.intro
      refine And.intro (fun w' hS' => ?_) ?_
      · go_wp2
        first
          | exact ⟨trivial, rfl⟩
          | exact rfl
      refine pl_skip (i := 5) rfl (by kernel_rfl) (by kernel_rfl) (by kernel_rfl) (by kernel_rfl) hS.out ?_
      apply Exists.intro
      refine And.intro (by simp [Act.put, go_sem]; rfl) ?_
      refine pl_skip (i := 6) rfl (by kernel_rfl) (by kernel_rfl) (by kernel_rfl) (by kernel_rfl) hS.out ?_
      apply Exists.intro
      refine And.intro (by simp [Act.put, go_sem]; rfl) ?_
      refine pl_skip (i := 7) rfl (by kernel_rfl) (by kernel_rfl) (by kernel_rfl) (by kernel_rfl) hS.out ?_
      apply Exists.intro
      refine And.intro (by simp [Act.put, go_sem]; rfl) ?_
      refine pl_skip (i := 8) rfl (by kernel_rfl) (by kernel_rfl) (by kernel_rfl) (by kernel_rfl) hS.out ?_
      apply Exists.intro
      refine And.intro (by simp [Act.put, go_sem]; rfl) ?_
      refine pl_take (i := 9) 48 rfl rfl rfl (by kernel_rfl) (by kernel_rfl) (by kernel_rfl) (by simp [Act.put]) hS.out ?_
      apply Exists.intro
      refine And.intro (fun w' hS' => ?_) ?_
      · go_wp2
        first
          | exact ⟨trivial, rfl⟩
          | exact rfl
      refine pl_take (i := 10) 49 rfl rfl rfl (by kernel_rfl) (by kernel_rfl) (by kernel_rfl) (by simp [Act.put]) hS.out ?_
      apply Exists.intro
      refine And.intro (fun w' hS' => ?_) ?_
      · go_wp2
        first
          | exact ⟨trivial, rfl⟩
          | exact rfl
      refine pl_skip (i := 11) rfl (by kernel_rfl) (by kernel_rfl) (by kernel_rfl) (by kernel_rfl) hS.out ?_
      apply Exists.intro
      refine And.intro (by simp [Act.put, go_sem]; rfl) ?_
      refine pl_skip (i := 12) rfl (by kernel_rfl) (by kernel_rfl) (by kernel_rfl) (by kernel_rfl) hS.out ?_
      apply Exists.intro
      refine And.intro (by simp [Act.put, go_sem]; rfl) ?_
      refine pl_skip (i := 13) rfl (by kernel_rfl) (by kernel_rfl) (by kernel_rfl) (by kernel_rfl) hS.out ?_
      apply Exists.intro
      refine And.intro (by simp [Act.put, go_sem]; rfl) ?_
      refine pl_skip (i := 14) rfl (by kernel_rfl) (by kernel_rfl) (by kernel_rfl) (by kernel_rfl) hS.out ?_
      apply Exists.intro
      refine And.intro (by simp [Act.put, go_sem]; rfl) ?_
      refine pl_skip (i := 15) rfl (by kernel_rfl) (by kernel_rfl) (by kernel_rfl) (by kernel_rfl) hS.out ?_
      apply Exists.intro
      refine And.intro (by simp [Act.put, go_sem]; rfl) ?_
      refine pl_skip (i := 16) rfl (by kernel_rfl) (by kernel_rfl) (by kernel_rfl) (by kernel_rfl) hS.out ?_
      apply Exists.intro
      refine And.intro (by simp [Act.put, go_sem]; rfl) ?_
      refine pl_skip (i := 17) rfl (by kernel_rfl) (by kernel_rfl) (by kernel_rfl) (by kernel_rfl) hS.out ?_
      apply Exists.intro
      refine And.intro (by simp [Act.put, go_sem]; rfl) ?_
      refine pl_skip (i := 18) rfl (by kernel_rfl) (by kernel_rfl) (by kernel_rfl) (by kernel_rfl) hS.out ?_
      apply Exists.intro
      refine And.intro (by simp [Act.put, go_sem]; rfl) ?_
      refine pl_skip (i := 19) rfl (by kernel_rfl) (by kernel_rfl) (by kernel_rfl) (by kernel_rfl) hS.out ?_
      apply Exists.intro
      refine And.intro (by simp [Act.put, go_sem]; rfl) ?_
      refine pl_take (i := 20) 59 rfl rfl rfl (by kernel_rfl) (by kernel_rfl) (by kernel_rfl) (by simp [Act.put]) hS.out ?_
      apply Exists.intro
      refine And.intro (fun w' hS' => ?_) ?_
      · go_wp2
        first
          | exact ⟨trivial, rfl⟩
          | exact rfl
      refine pl_done (by kernel_rfl) ?_
      go_wp2_with fail
      refine (CP.out w4 0 hS.out.1 (PK.out.2.2)).mono ?_
      rintro e w5 ⟨v5, rfl, p5, b5⟩
      obtain ⟨a5, k5, rfl⟩ := p5.slice
      obtain ⟨q5, hq5⟩ : ∃ q, q = (pathM knotB [] 20 0 (l.map leafB)).length := ⟨_, rfl⟩
      rw [← hq5]
      have PV : Hid (Hs w5 (.slice a5 q5 k5) (pathB 0 l)) := Lib.hid (by rw [hq5]; exact p5)
      clear p5 hq5
      replace hS := Lib.hid (And.intro (hS.out.1.fresh b5) (hS.out.2.fresh b5))
      replace BB := Lib.hid (BB.out.tr b5)
      clear b5
      go_wp2_with (with_reducible refine stopStore 92 ?_)
      refine Stop.go ?_
      obtain ⟨G, hG⟩ : ∃ G, G = w5.heap.size := ⟨_, rfl⟩
      rw [← hG]
      refine wpList_store_var rfl 92 (.tmp 6) (.tmp 70) rfl G _ rfl _ [.int .i64 0, .int .i64 (N : Int), .slice a5 q5 k5] rfl (by rw [hG]; exact heap_alloc_new w5 _) (by simp) (by intro u hu; simp at hu; rcases hu with rfl | rfl | rfl <;> rfl) (by exact infoPath) ?_
      intro w6 k6 o6
      have b6 : Below w5.heap.size w5 w6 := Below.only ((Below.refl _ w5).alloc (Nat.le_refl _) _) o6 (by omega)
      have k6' : CB w6 92 G [.int .i64 0, .int .i64 (N : Int), .slice a5 q5 k5] := k6
      replace hS := Lib.hid (And.intro (hS.out.1.fresh b6.drew) (And.intro (k6'.fresh (show Below w6.heap.size w6 w6.drew from (Below.refl _ w6).drew)) (hS.out.2.fresh b6.drew)))
      replace BB := Lib.hid (BB.out.tr b6).drew
      replace PV := Lib.hid (PV.out.fresh b6.drew)
      clear k6 k6' o6 b6 hG
      go_wp2_with fail
      refine pl_start 16 rfl (fun w' => Hs w' (.slice (some ad) N c0) l ∧ CB w' 92 G [.int .i64 0, .int .i64 (N : Int), .slice a5 q5 k5] ∧ Hs w' (.slice (some bd) M c1) m) (by kernel_rfl) ?_
      obtain ⟨w7, hw7⟩ : ∃ w7, w7 = w6.drew := ⟨_, rfl⟩
      rw [← hw7] at hS BB PV ⊢
      clear hw7
      refine pl_take (i := 0) 72 rfl rfl rfl (by kernel_rfl) (by kernel_rfl) (by kernel_rfl) (by simp [Act.put]) hS.out ?_
      apply Exists.intro
      refine And.intro (fun w' hS' => ?_) ?_
      · go_wp2
        first
          | exact ⟨trivial, rfl⟩
          | exact rfl
      refine pl_heavy (i := 1) rfl (by kernel_rfl) ?_
      go_wp2_with fail
      refine (ynum_any w7 _).mono ?_
      rintro e w8 ⟨rfl, rfl⟩
      go_wp2
      refine And.intro hS.out ?_
      refine pl_take (i := 2) 74 rfl rfl rfl (by kernel_rfl) (by kernel_rfl) (by kernel_rfl) (by simp [Act.put]) hS.out ?_
      apply Exists.intro
      refine And.intro (fun w' hS' => ?_) ?_
      · go_wp2
        first
          | exact ⟨trivial, rfl⟩
          | exact rfl
      refine pl_take (i := 3) 75 rfl rfl rfl (by kernel_rfl) (by kernel_rfl) (by kernel_rfl) (by simp [Act.put]) hS.out ?_
      apply Exists.intro
      refine And.intro (fun w' hS' => ?_) ?_
      · go_wp2
        first
          | exact ⟨trivial, rfl⟩
          | exact rfl
      refine pl_take (i := 4) 76 rfl rfl rfl (by kernel_rfl) (by kernel_rfl) (by kernel_rfl) (by simp [Act.put]) hS.out ?_
      apply Exists.intro
      refine And.intro (fun w' hS' => ?_) ?_
      · refine wpList_unguard' rfl ?_
        clear hS'
        go_wp2
        first
          | exact ⟨trivial, rfl⟩
          | exact rfl
      refine pl_take (i := 5) 77 rfl rfl rfl (by kernel_rfl) (by kernel_rfl) (by kernel_rfl) (by simp [Act.put]) hS.out ?_
      apply Exists.intro
      refine And.intro (fun w' hS' => ?_) ?_
      · refine wpList_unguard' rfl ?_
        clear hS'
        go_wp2
        first
          | exact ⟨trivial, rfl⟩
          | exact rfl
      refine pl_take (i := 6) 78 rfl rfl rfl (by kernel_rfl) (by kernel_rfl) (by kernel_rfl) (by simp [Act.put]) hS.out ?_
      apply Exists.intro
      refine And.intro (fun w' hS' => ?_) ?_
      · refine wpList_unguard' rfl ?_
        clear hS'
        go_wp2
        first
          | exact ⟨trivial, rfl⟩
          | exact rfl
      refine pl_take (i := 7) 79 rfl rfl rfl (by kernel_rfl) (by kernel_rfl) (by kernel_rfl) (by simp [Act.put]) hS.out ?_
      apply Exists.intro
      refine And.intro (fun w' hS' => ?_) ?_
      · refine wpList_unguard' rfl ?_
        refine wpList_load_agg rfl 24 (.tmp 78) rfl (ad.add (0 * 32)) rfl (bvs x) _ (hS'.1.elem' PK.out.1) Try.underlying24 rfl (by rw [bvs_length, PK.out.2.1]; exact infoHash) ?_
        clear hS'
        go_wp2
        exact ⟨trivial, rfl⟩
      refine pl_take (i := 8) 80 rfl rfl rfl (by kernel_rfl) (by kernel_rfl) (by kernel_rfl) (by simp [Act.put]) hS.out ?_
      apply Exists.intro
      refine And.intro (fun w' hS' => ?_) ?_
      · refine wpList_unguard' rfl ?_
        refine wpList_load_agg rfl 92 (.tmp 6) rfl ⟨G, 0, none⟩ rfl [.int .i64 0, .int .i64 (N : Int), .slice a5 q5 k5] _ (At.block hS'.2.1).load Try.underlying92 rfl (by exact infoPath) ?_
        clear hS'
        go_wp2
        exact ⟨trivial, rfl⟩
      refine pl_take (i := 9) 81 rfl rfl rfl (by kernel_rfl) (by kernel_rfl) (by kernel_rfl) (by simp [Act.put]) hS.out ?_
      apply Exists.intro
      refine And.intro (fun w' hS' => ?_) ?_
      · refine wpList_unguard' rfl ?_
        clear hS'
        go_wp2
        first
          | exact ⟨trivial, rfl⟩
          | exact rfl
      have CT := Lib.hid (ytold_any w8 (.slice a5 q5 k5) (.slice (some bd) M c1) x 0 (N : Int) (pathB 0 l) m PK.out.2.1 PV.out hS.out.2.2 HM.out)
      rw [TOLD.out] at CT
      refine pl_heavy (i := 10) rfl (by kernel_rfl) ?_
      refine wpList_unguard' rfl ?_
      go_wp2_with fail
      refine (CT.out).mono ?_
      rintro e w9 ⟨rfl, b9⟩
      replace hS := Lib.hid (And.intro (hS.out.1.fresh b9) (And.intro (hS.out.2.1.fresh b9) (hS.out.2.2.fresh b9)))
      replace BB := Lib.hid (BB.out.tr b9)
      clear b9
      go_wp2
      refine And.intro hS.out ?_
      refine pl_take (i := 11) 83 rfl rfl rfl (by kernel_rfl) (by kernel_rfl) (by kernel_rfl) (by simp [Act.put]) hS.out ?_
      apply Exists.intro
      refine And.intro (fun w' hS' => ?_) ?_
      · go_wp2
        first
          | exact ⟨trivial, rfl⟩
          | exact rfl
      refine pl_take (i := 12) 84 rfl rfl rfl (by kernel_rfl) (by kernel_rfl) (by kernel_rfl) (by simp [Act.put]) hS.out ?_
      apply Exists.intro
      refine And.intro (fun w' hS' => ?_) ?_
      · go_wp2
        first
          | exact ⟨trivial, rfl⟩
          | exact rfl
      refine pl_heavy (i := 13) rfl (by kernel_rfl) ?_
      refine wpList_unguard' rfl ?_
      go_wp2_with fail
      refine (yknown_any _).mono ?_
      rintro e w10 ⟨rfl, b10⟩
      replace hS := Lib.hid (And.intro (hS.out.1.fresh b10) (And.intro (hS.out.2.1.fresh b10) (hS.out.2.2.fresh b10)))
      replace BB := Lib.hid (BB.out.tr b10)
      clear b10
      go_wp2
      refine And.intro hS.out ?_
      refine pl_take (i := 14) 86 rfl rfl rfl (by kernel_rfl) (by kernel_rfl) (by kernel_rfl) (by simp [Act.put]) hS.out ?_
      apply Exists.intro
      refine And.intro (fun w' hS' => ?_) ?_
      · go_wp2
        first
          | exact ⟨trivial, rfl⟩
          | exact rfl
      refine pl_take (i := 15) 4 rfl rfl rfl (by kernel_rfl) (by kernel_rfl) (by kernel_rfl) (by simp [Act.put]) hS.out ?_
      apply Exists.intro
      refine And.intro (fun w' hS' => ?_) ?_
      · go_wp2
        first
          | exact ⟨trivial, rfl⟩
          | exact rfl
      refine pl_done (by kernel_rfl) ?_
      go_wp2
      go_ret
      exact ⟨rfl, BB.out⟩

end Go.Proofs.Ytbabjepblakboaa
