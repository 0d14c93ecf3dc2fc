/- Merkle: what the law knows; lists of hashes compared: the walks. -/
import Derived.Test.YtbabjepblakboaaG6
namespace Go.Proofs.Ytbabjepblakboaa
set_option linter.unusedVariables false
set_option linter.unusedSimpArgs false
open Go.RowKit Go.Lib

theorem hash_eq_refl (w : World) (xs : List UInt8) (hx : xs.length = 32) :
    (binOp .eql 24 (.agg (bvs xs).toArray) (.agg (bvs xs).toArray)).run Try.prog w = .ok (.bool true) w := by
  have h := hash_eq w xs xs hx hx
  rw [h]
  simp

theorem rootB_one (a : Bs) : rootB [a] = topB 1 (leafB a) := by
  simp [rootB, leftM]

theorem rootB_three (a b c : Bs) : rootB [a, b, c] = topB 3 (knotB (knotB (leafB a) (leafB b)) (leafB c)) := by
  simp [rootB, leftM]

/-- Or both of two that make memory may come up. -/
theorem pl_either {P : Program} {ops : Array Oper} {S : World → Prop} {K : Act → World → Prop} {i j fuel : Nat} {oi oj : Oper} {listed : Array Bool} {a : Act} {w : World} (hi : ops[i]? = some oi) (hj : ops[j]? = some oj) (hr : Region.ready .any ops listed = [i, j])
    (h1 : wpList P ops (Exit.then (fun a' w' => S w' ∧ wpAnyH P .any ops (PQ K) S fuel (listed.setIfInBounds i true) a' w') noExit) [oi] a w)
    (h2 : wpList P ops (Exit.then (fun a' w' => S w' ∧ wpAnyH P .any ops (PQ K) S fuel (listed.setIfInBounds j true) a' w') noExit) [oj] a w) : wpAnyH P .any ops (PQ K) S (fuel + 1) listed a w := by
  refine wpAnyH_all hr (by simp) ?_
  intro k hk
  simp only [List.mem_cons, List.not_mem_nil, or_false] at hk
  rcases hk with rfl | rfl
  · exact pf_op hi h1
  · exact pf_op hj h2

/-- The rest, shown once for all orders. -/
theorem yshare {α β : Type} {F : α → β → Prop} {G : Prop} (P : α → β → Prop) (h1 : (∀ x y, F x y → P x y) → G) (h2 : ∀ x y, F x y → P x y) : G := h1 h2

set_option maxRecDepth 100000 in
set_option maxHeartbeats 4000000 in
theorem yknown_any (w : World) :
    Calls Try.prog 46 #[] w fun e w' => e = .returned (.bool true) ∧ Below w.heap.size w w' := by
  obtain ⟨A, hA⟩ : ∃ A : Bs, A = 1 :: List.replicate 31 0 := ⟨_, rfl⟩
  obtain ⟨B, hB⟩ : ∃ A : Bs, A = 2 :: List.replicate 31 0 := ⟨_, rfl⟩
  obtain ⟨C, hC⟩ : ∃ A : Bs, A = 3 :: List.replicate 31 0 := ⟨_, rfl⟩
  have hAl : Hid (A.length = 32) := Lib.hid (by rw [hA]; simp)
  have hBl : Hid (B.length = 32) := Lib.hid (by rw [hB]; simp)
  have hCl : Hid (C.length = 32) := Lib.hid (by rw [hC]; simp)
  have HA := Lib.hid hA
  have HB := Lib.hid hB
  have HC := Lib.hid hC
  clear hA hB hC
  go_enter Try.func46, Try.ntmps46
  go_wp2_with (with_reducible refine stopAt 6 ?_)
  refine Stop.go ?_
  refine wpList_build rfl _ _ rfl (.agg (bvs A).toArray) (by rw [HA.out]; kernel_rfl) ?_
  go_wp2_with (with_reducible refine stopAt 7 ?_)
  refine Stop.go ?_
  refine wpList_build rfl _ _ rfl (.agg (bvs B).toArray) (by rw [HB.out]; kernel_rfl) ?_
  go_wp2_with (with_reducible refine stopAt 8 ?_)
  refine Stop.go ?_
  refine wpList_build rfl _ _ rfl (.agg (bvs C).toArray) (by rw [HC.out]; kernel_rfl) ?_
  go_wp2_with (with_reducible refine stopStore 24 ?_)
  refine Stop.go ?_
  obtain ⟨w1, h1, k1, b1, s1⟩ := alloc_cb w 24 (bvs (List.replicate 32 0))
  obtain ⟨w2, h2, k2, b2, s2⟩ := alloc_cb w1 24 (bvs (List.replicate 32 0))
  obtain ⟨w3, h3, k3, b3, s3⟩ := alloc_cb w2 24 (bvs (List.replicate 32 0))
  change wpList _ _ _ _ _ (((w.alloc (.cells (bvs (List.replicate 32 0)).toArray 24)).alloc (.cells (bvs (List.replicate 32 0)).toArray 24)).alloc (.cells (bvs (List.replicate 32 0)).toArray 24))
  rw [← h1, ← h2, ← h3]
  rw [s1] at s2 k2
  rw [s2] at k3
  have b03 : Below w.heap.size w w3 := (b1.tr b2).tr b3
  have k13 := (k1.fresh b2).fresh b3
  have k23 := k2.fresh b3
  clear h1 h2 h3 b1 b2 b3 k1 k2 s1 s2 s3
  refine wpList_store_var rfl 24 (.tmp 1) (.tmp 6) rfl w.heap.size _ rfl _ (bvs A) rfl k13 (by simp [hAl.out]) (bvs_one _) (by rw [bvs_length, hAl.out]; exact infoHash) ?_
  intro w4 k4 o4
  have k24 := k23.only o4 (by omega)
  have k34 := k3.only o4 (by omega)
  have b04 : Below w.heap.size w w4 := Below.only b03 o4 (Nat.le_refl _)
  replace k4 : CB w4 24 w.heap.size (bvs A) := k4
  clear o4 k13 k23 k3 b03
  go_wp2_with (with_reducible refine stopStore 24 ?_)
  refine Stop.go ?_
  refine wpList_store_var rfl 24 (.tmp 2) (.tmp 7) rfl (w.heap.size + 1) _ rfl _ (bvs B) rfl k24 (by simp [hBl.out]) (bvs_one _) (by rw [bvs_length, hBl.out]; exact infoHash) ?_
  intro w5 k5 o5
  have k15 := k4.only o5 (by omega)
  have k35 := k34.only o5 (by omega)
  have b05 : Below w.heap.size w w5 := Below.only b04 o5 (by omega)
  replace k5 : CB w5 24 (w.heap.size + 1) (bvs B) := k5
  clear o5 k4 k24 k34 b04
  go_wp2_with (with_reducible refine stopStore 24 ?_)
  refine Stop.go ?_
  refine wpList_store_var rfl 24 (.tmp 3) (.tmp 8) rfl (w.heap.size + 1 + 1) _ rfl _ (bvs C) rfl k35 (by simp [hCl.out]) (bvs_one _) (by rw [bvs_length, hCl.out]; exact infoHash) ?_
  intro w6 k6 o6
  have S6 : Hid (CB w6 24 w.heap.size (bvs A) ∧ CB w6 24 (w.heap.size + 1) (bvs B) ∧ CB w6 24 (w.heap.size + 1 + 1) (bvs C)) := Lib.hid ⟨k15.only o6 (by omega), k5.only o6 (by omega), k6⟩
  have BB := Lib.hid (Below.only b05 o6 (by omega))
  clear o6 k6 k15 k5 k35 b05
  go_wp2_with (with_reducible refine stopAt 9 ?_)
  refine Stop.go ?_
  refine wpList_load_agg rfl 24 (.tmp 1) rfl (⟨w.heap.size, 0, none⟩) rfl (bvs A) _ ((At.block S6.out.1).load) Try.underlying24 rfl (by rw [bvs_length, hAl.out]; exact infoHash) ?_
  go_wp2_with fail
  refine (rleaf_any w6 A hAl.out).mono ?_
  rintro e w7 ⟨rfl, b7⟩
  have S7 := Lib.hid (And.intro (S6.out.1.fresh b7) (And.intro (S6.out.2.1.fresh b7) (S6.out.2.2.fresh b7)))
  replace BB := Lib.hid (BB.out.tr b7)
  clear b7 S6
  go_wp2_with (with_reducible refine stopStore 24 ?_)
  refine Stop.go ?_
  refine wpList_store_var rfl 24 (.tmp 4) (.tmp 10) rfl w7.heap.size _ rfl _ (bvs (leafB A)) rfl (heap_alloc_new w7 _) (by simp [leafB_length A]) (bvs_one _) (by rw [bvs_length, leafB_length A]; exact infoHash) ?_
  intro w8 kw8 ow8
  have bw8 : Below w7.heap.size w7 w8 := Below.only ((Below.refl _ w7).alloc (Nat.le_refl _) _) ow8 (Nat.le_refl _)
  replace kw8 : CB w8 24 w7.heap.size (bvs (leafB A)) := kw8
  clear ow8
  obtain ⟨D, hD⟩ : ∃ D, D = w7.heap.size := ⟨_, rfl⟩
  have SS : Hid (CB w8.drew 24 w.heap.size (bvs A) ∧ CB w8.drew 24 (w.heap.size + 1) (bvs B) ∧ CB w8.drew 24 (w.heap.size + 1 + 1) (bvs C) ∧ CB w8.drew 24 D (bvs (leafB A))) := Lib.hid ⟨S7.out.1.fresh bw8.drew, S7.out.2.1.fresh bw8.drew, S7.out.2.2.fresh bw8.drew, by rw [hD]; exact kw8⟩
  replace BB : Hid (Below w.heap.size w w8.drew) := Lib.hid (BB.out.tr bw8).drew
  rw [← hD]
  clear bw8 kw8 hD S7
  go_wp2_with fail
  refine yshare (F := fun (wz : World) (O : Nat) => (CB wz 24 w.heap.size (bvs A) ∧ CB wz 24 (w.heap.size + 1) (bvs B) ∧ CB wz 24 (w.heap.size + 1 + 1) (bvs C) ∧ CB wz 24 D (bvs (leafB A))) ∧ CB wz 24 O (bvs (knotB (knotB (leafB A) (leafB B)) (leafB C))) ∧ Below w.heap.size w wz) ?pshare ?tree ?rest
  case tree =>
   intro HREST
   have HREST := Lib.hid HREST
   refine pl_start 10 rfl (fun w' => CB w' 24 w.heap.size (bvs A) ∧ CB w' 24 (w.heap.size + 1) (bvs B) ∧ CB w' 24 (w.heap.size + 1 + 1) (bvs C) ∧ CB w' 24 D (bvs (leafB A))) (by kernel_rfl) ?_
   obtain ⟨w9, hw9⟩ : ∃ w9, w9 = w8.drew := ⟨_, rfl⟩
   rw [← hw9] at SS BB ⊢
   clear hw9
   refine pl_take (i := 0) 11 rfl rfl rfl (by kernel_rfl) (by kernel_rfl) (by kernel_rfl) (by simp [Act.put]) SS.out ?_
   apply Exists.intro
   refine And.intro (fun w' hS' => ?_) ?_
   · refine wpList_load_agg rfl 24 (.tmp 1) rfl (⟨w.heap.size, 0, none⟩) rfl (bvs A) _ ((At.block hS'.1).load) Try.underlying24 rfl (by rw [bvs_length, hAl.out]; exact infoHash) ?_
     go_wp2
     exact ⟨trivial, rfl⟩
   refine pl_take (i := 2) 13 rfl rfl rfl (by kernel_rfl) (by kernel_rfl) (by kernel_rfl) (by simp [Act.put]) SS.out ?_
   apply Exists.intro
   refine And.intro (fun w' hS' => ?_) ?_
   · refine wpList_load_agg rfl 24 (.tmp 2) rfl (⟨w.heap.size + 1, 0, none⟩) rfl (bvs B) _ ((At.block hS'.2.1).load) Try.underlying24 rfl (by rw [bvs_length, hBl.out]; exact infoHash) ?_
     go_wp2
     exact ⟨trivial, rfl⟩
   refine pl_take (i := 5) 16 rfl rfl rfl (by kernel_rfl) (by kernel_rfl) (by kernel_rfl) (by simp [Act.put]) SS.out ?_
   apply Exists.intro
   refine And.intro (fun w' hS' => ?_) ?_
   · refine wpList_load_agg rfl 24 (.tmp 3) rfl (⟨w.heap.size + 1 + 1, 0, none⟩) rfl (bvs C) _ ((At.block hS'.2.2.1).load) Try.underlying24 rfl (by rw [bvs_length, hCl.out]; exact infoHash) ?_
     go_wp2
     exact ⟨trivial, rfl⟩
   refine pl_either (i := 1) (j := 8) rfl rfl (by kernel_rfl) ?_ ?_
   · go_wp2_with fail
     refine (rleaf_any w9 A hAl.out).mono ?_
     rintro e w10 ⟨rfl, b⟩
     replace SS := Lib.hid (And.intro (SS.out.1.fresh b) (And.intro (SS.out.2.1.fresh b) (And.intro (SS.out.2.2.1.fresh b) (SS.out.2.2.2.fresh b))))
     replace BB := Lib.hid (BB.out.tr b)
     clear b
     go_wp2
     refine And.intro SS.out ?_
     refine pl_either (i := 3) (j := 8) rfl rfl (by kernel_rfl) ?_ ?_
     · go_wp2_with fail
       refine (rleaf_any w10 B hBl.out).mono ?_
       rintro e w11 ⟨rfl, b⟩
       replace SS := Lib.hid (And.intro (SS.out.1.fresh b) (And.intro (SS.out.2.1.fresh b) (And.intro (SS.out.2.2.1.fresh b) (SS.out.2.2.2.fresh b))))
       replace BB := Lib.hid (BB.out.tr b)
       clear b
       go_wp2
       refine And.intro SS.out ?_
       refine pl_either (i := 4) (j := 8) rfl rfl (by kernel_rfl) ?_ ?_
       · go_wp2_with fail
         refine (rknot_any w11 (leafB A) (leafB B) (leafB_length A) (leafB_length B)).mono ?_
         rintro e w12 ⟨rfl, b⟩
         replace SS := Lib.hid (And.intro (SS.out.1.fresh b) (And.intro (SS.out.2.1.fresh b) (And.intro (SS.out.2.2.1.fresh b) (SS.out.2.2.2.fresh b))))
         replace BB := Lib.hid (BB.out.tr b)
         clear b
         go_wp2
         refine And.intro SS.out ?_
         refine pl_either (i := 6) (j := 8) rfl rfl (by kernel_rfl) ?_ ?_
         · go_wp2_with fail
           refine (rleaf_any w12 C hCl.out).mono ?_
           rintro e w13 ⟨rfl, b⟩
           replace SS := Lib.hid (And.intro (SS.out.1.fresh b) (And.intro (SS.out.2.1.fresh b) (And.intro (SS.out.2.2.1.fresh b) (SS.out.2.2.2.fresh b))))
           replace BB := Lib.hid (BB.out.tr b)
           clear b
           go_wp2
           refine And.intro SS.out ?_
           refine pl_either (i := 7) (j := 8) rfl rfl (by kernel_rfl) ?_ ?_
           · go_wp2_with fail
             refine (rknot_any w13 (knotB (leafB A) (leafB B)) (leafB C) (knotB_length _ _) (leafB_length C)).mono ?_
             rintro e w14 ⟨rfl, b⟩
             replace SS := Lib.hid (And.intro (SS.out.1.fresh b) (And.intro (SS.out.2.1.fresh b) (And.intro (SS.out.2.2.1.fresh b) (SS.out.2.2.2.fresh b))))
             replace BB := Lib.hid (BB.out.tr b)
             clear b
             go_wp2
             refine And.intro SS.out ?_
             refine pl_heavy (i := 8) rfl (by kernel_rfl) ?_
             have OWw14 : w.heap.size ≤ w14.heap.size := BB.out.size
             have OSw14 : D < w14.heap.size ∧ w.heap.size + 1 + 1 < w14.heap.size := ⟨SS.out.2.2.2.lt, SS.out.2.2.1.lt⟩
             go_wp2_with fail
             obtain ⟨w15, h, k, b, s⟩ := alloc_cb w14 24 (bvs (List.replicate 32 0))
             have SS2 : Hid (CB w15 24 w.heap.size (bvs A) ∧ CB w15 24 (w.heap.size + 1) (bvs B) ∧ CB w15 24 (w.heap.size + 1 + 1) (bvs C) ∧ CB w15 24 D (bvs (leafB A))) := Lib.hid (And.intro (SS.out.1.fresh b) (And.intro (SS.out.2.1.fresh b) (And.intro (SS.out.2.2.1.fresh b) (SS.out.2.2.2.fresh b))))
             refine And.intro (by have SS3 := SS2.out; rw [h] at SS3; exact SS3) ?_
             change wpAnyH _ _ _ _ _ _ _ _ (w14.alloc (.cells (bvs (List.replicate 32 0)).toArray 24))
             rw [← h]
             replace SS := SS2
             replace BB := Lib.hid (BB.out.tr b)
             obtain ⟨O, hO⟩ : ∃ O, O = w14.heap.size := ⟨_, rfl⟩
             rw [← hO] at k ⊢
             have KK := Lib.hid k
             have OO : Hid (w.heap.size ≤ O ∧ (D < O ∧ w.heap.size + 1 + 1 < O)) := Lib.hid ⟨by rw [hO]; exact OWw14, by rw [hO]; exact OSw14⟩
             clear SS2 h k b s hO
             refine pl_heavy (i := 9) rfl (by kernel_rfl) ?_
             refine wpList_store_var rfl 24 (.tmp 5) (.tmp 18) rfl O _ rfl _ (bvs (knotB (knotB (leafB A) (leafB B)) (leafB C))) rfl KK.out (by simp [knotB_length]) (bvs_one _) (by rw [bvs_length, knotB_length]; exact infoHash) ?_
             intro wz kz oz
             have SZ := Lib.hid (And.intro (SS.out.1.only oz (by have := OO.out; omega)) (And.intro (SS.out.2.1.only oz (by have := OO.out; omega)) (And.intro (SS.out.2.2.1.only oz (by have := OO.out; omega)) (SS.out.2.2.2.only oz (by have := OO.out; omega)))))
             have TZ := Lib.hid (And.intro SZ.out (show CB wz 24 O (bvs (knotB (knotB (leafB A) (leafB B)) (leafB C))) from kz))
             have BZ : Hid (Below w.heap.size w wz) := Lib.hid (Below.only BB.out oz OO.out.1)
             clear kz oz
             go_wp2
             refine And.intro SZ.out ?_
             refine pl_done (by kernel_rfl) ?_
             exact HREST.out wz O ⟨SZ.out, TZ.out.2, BZ.out⟩
           · have OWw13 : w.heap.size ≤ w13.heap.size := BB.out.size
             have OSw13 : D < w13.heap.size ∧ w.heap.size + 1 + 1 < w13.heap.size := ⟨SS.out.2.2.2.lt, SS.out.2.2.1.lt⟩
             go_wp2_with fail
             obtain ⟨w16, h, k, b, s⟩ := alloc_cb w13 24 (bvs (List.replicate 32 0))
             have SS2 : Hid (CB w16 24 w.heap.size (bvs A) ∧ CB w16 24 (w.heap.size + 1) (bvs B) ∧ CB w16 24 (w.heap.size + 1 + 1) (bvs C) ∧ CB w16 24 D (bvs (leafB A))) := Lib.hid (And.intro (SS.out.1.fresh b) (And.intro (SS.out.2.1.fresh b) (And.intro (SS.out.2.2.1.fresh b) (SS.out.2.2.2.fresh b))))
             refine And.intro (by have SS3 := SS2.out; rw [h] at SS3; exact SS3) ?_
             change wpAnyH _ _ _ _ _ _ _ _ (w13.alloc (.cells (bvs (List.replicate 32 0)).toArray 24))
             rw [← h]
             replace SS := SS2
             replace BB := Lib.hid (BB.out.tr b)
             obtain ⟨O, hO⟩ : ∃ O, O = w13.heap.size := ⟨_, rfl⟩
             rw [← hO] at k ⊢
             have KK := Lib.hid k
             have OO : Hid (w.heap.size ≤ O ∧ (D < O ∧ w.heap.size + 1 + 1 < O)) := Lib.hid ⟨by rw [hO]; exact OWw13, by rw [hO]; exact OSw13⟩
             clear SS2 h k b s hO
             refine pl_heavy (i := 7) rfl (by kernel_rfl) ?_
             go_wp2_with fail
             refine (rknot_any w16 (knotB (leafB A) (leafB B)) (leafB C) (knotB_length _ _) (leafB_length C)).mono ?_
             rintro e w17 ⟨rfl, b⟩
             replace SS := Lib.hid (And.intro (SS.out.1.fresh b) (And.intro (SS.out.2.1.fresh b) (And.intro (SS.out.2.2.1.fresh b) (SS.out.2.2.2.fresh b))))
             replace BB := Lib.hid (BB.out.tr b)
             replace KK := Lib.hid (KK.out.fresh b)
             clear b
             go_wp2
             refine And.intro SS.out ?_
             refine pl_heavy (i := 9) rfl (by kernel_rfl) ?_
             refine wpList_store_var rfl 24 (.tmp 5) (.tmp 18) rfl O _ rfl _ (bvs (knotB (knotB (leafB A) (leafB B)) (leafB C))) rfl KK.out (by simp [knotB_length]) (bvs_one _) (by rw [bvs_length, knotB_length]; exact infoHash) ?_
             intro wz kz oz
             have SZ := Lib.hid (And.intro (SS.out.1.only oz (by have := OO.out; omega)) (And.intro (SS.out.2.1.only oz (by have := OO.out; omega)) (And.intro (SS.out.2.2.1.only oz (by have := OO.out; omega)) (SS.out.2.2.2.only oz (by have := OO.out; omega)))))
             have TZ := Lib.hid (And.intro SZ.out (show CB wz 24 O (bvs (knotB (knotB (leafB A) (leafB B)) (leafB C))) from kz))
             have BZ : Hid (Below w.heap.size w wz) := Lib.hid (Below.only BB.out oz OO.out.1)
             clear kz oz
             go_wp2
             refine And.intro SZ.out ?_
             refine pl_done (by kernel_rfl) ?_
             exact HREST.out wz O ⟨SZ.out, TZ.out.2, BZ.out⟩
         · have OWw12 : w.heap.size ≤ w12.heap.size := BB.out.size
           have OSw12 : D < w12.heap.size ∧ w.heap.size + 1 + 1 < w12.heap.size := ⟨SS.out.2.2.2.lt, SS.out.2.2.1.lt⟩
           go_wp2_with fail
           obtain ⟨w18, h, k, b, s⟩ := alloc_cb w12 24 (bvs (List.replicate 32 0))
           have SS2 : Hid (CB w18 24 w.heap.size (bvs A) ∧ CB w18 24 (w.heap.size + 1) (bvs B) ∧ CB w18 24 (w.heap.size + 1 + 1) (bvs C) ∧ CB w18 24 D (bvs (leafB A))) := Lib.hid (And.intro (SS.out.1.fresh b) (And.intro (SS.out.2.1.fresh b) (And.intro (SS.out.2.2.1.fresh b) (SS.out.2.2.2.fresh b))))
           refine And.intro (by have SS3 := SS2.out; rw [h] at SS3; exact SS3) ?_
           change wpAnyH _ _ _ _ _ _ _ _ (w12.alloc (.cells (bvs (List.replicate 32 0)).toArray 24))
           rw [← h]
           replace SS := SS2
           replace BB := Lib.hid (BB.out.tr b)
           obtain ⟨O, hO⟩ : ∃ O, O = w12.heap.size := ⟨_, rfl⟩
           rw [← hO] at k ⊢
           have KK := Lib.hid k
           have OO : Hid (w.heap.size ≤ O ∧ (D < O ∧ w.heap.size + 1 + 1 < O)) := Lib.hid ⟨by rw [hO]; exact OWw12, by rw [hO]; exact OSw12⟩
           clear SS2 h k b s hO
           refine pl_heavy (i := 6) rfl (by kernel_rfl) ?_
           go_wp2_with fail
           refine (rleaf_any w18 C hCl.out).mono ?_
           rintro e w19 ⟨rfl, b⟩
           replace SS := Lib.hid (And.intro (SS.out.1.fresh b) (And.intro (SS.out.2.1.fresh b) (And.intro (SS.out.2.2.1.fresh b) (SS.out.2.2.2.fresh b))))
           replace BB := Lib.hid (BB.out.tr b)
           replace KK := Lib.hid (KK.out.fresh b)
           clear b
           go_wp2
           refine And.intro SS.out ?_
           refine pl_heavy (i := 7) rfl (by kernel_rfl) ?_
           go_wp2_with fail
           refine (rknot_any w19 (knotB (leafB A) (leafB B)) (leafB C) (knotB_length _ _) (leafB_length C)).mono ?_
           rintro e w20 ⟨rfl, b⟩
           replace SS := Lib.hid (And.intro (SS.out.1.fresh b) (And.intro (SS.out.2.1.fresh b) (And.intro (SS.out.2.2.1.fresh b) (SS.out.2.2.2.fresh b))))
           replace BB := Lib.hid (BB.out.tr b)
           replace KK := Lib.hid (KK.out.fresh b)
           clear b
           go_wp2
           refine And.intro SS.out ?_
           refine pl_heavy (i := 9) rfl (by kernel_rfl) ?_
           refine wpList_store_var rfl 24 (.tmp 5) (.tmp 18) rfl O _ rfl _ (bvs (knotB (knotB (leafB A) (leafB B)) (leafB C))) rfl KK.out (by simp [knotB_length]) (bvs_one _) (by rw [bvs_length, knotB_length]; exact infoHash) ?_
           intro wz kz oz
           have SZ := Lib.hid (And.intro (SS.out.1.only oz (by have := OO.out; omega)) (And.intro (SS.out.2.1.only oz (by have := OO.out; omega)) (And.intro (SS.out.2.2.1.only oz (by have := OO.out; omega)) (SS.out.2.2.2.only oz (by have := OO.out; omega)))))
           have TZ := Lib.hid (And.intro SZ.out (show CB wz 24 O (bvs (knotB (knotB (leafB A) (leafB B)) (leafB C))) from kz))
           have BZ : Hid (Below w.heap.size w wz) := Lib.hid (Below.only BB.out oz OO.out.1)
           clear kz oz
           go_wp2
           refine And.intro SZ.out ?_
           refine pl_done (by kernel_rfl) ?_
           exact HREST.out wz O ⟨SZ.out, TZ.out.2, BZ.out⟩
       · have OWw11 : w.heap.size ≤ w11.heap.size := BB.out.size
         have OSw11 : D < w11.heap.size ∧ w.heap.size + 1 + 1 < w11.heap.size := ⟨SS.out.2.2.2.lt, SS.out.2.2.1.lt⟩
         go_wp2_with fail
         obtain ⟨w21, h, k, b, s⟩ := alloc_cb w11 24 (bvs (List.replicate 32 0))
         have SS2 : Hid (CB w21 24 w.heap.size (bvs A) ∧ CB w21 24 (w.heap.size + 1) (bvs B) ∧ CB w21 24 (w.heap.size + 1 + 1) (bvs C) ∧ CB w21 24 D (bvs (leafB A))) := Lib.hid (And.intro (SS.out.1.fresh b) (And.intro (SS.out.2.1.fresh b) (And.intro (SS.out.2.2.1.fresh b) (SS.out.2.2.2.fresh b))))
         refine And.intro (by have SS3 := SS2.out; rw [h] at SS3; exact SS3) ?_
         change wpAnyH _ _ _ _ _ _ _ _ (w11.alloc (.cells (bvs (List.replicate 32 0)).toArray 24))
         rw [← h]
         replace SS := SS2
         replace BB := Lib.hid (BB.out.tr b)
         obtain ⟨O, hO⟩ : ∃ O, O = w11.heap.size := ⟨_, rfl⟩
         rw [← hO] at k ⊢
         have KK := Lib.hid k
         have OO : Hid (w.heap.size ≤ O ∧ (D < O ∧ w.heap.size + 1 + 1 < O)) := Lib.hid ⟨by rw [hO]; exact OWw11, by rw [hO]; exact OSw11⟩
         clear SS2 h k b s hO
         refine pl_heavy (i := 4) rfl (by kernel_rfl) ?_
         go_wp2_with fail
         refine (rknot_any w21 (leafB A) (leafB B) (leafB_length A) (leafB_length B)).mono ?_
         rintro e w22 ⟨rfl, b⟩
         replace SS := Lib.hid (And.intro (SS.out.1.fresh b) (And.intro (SS.out.2.1.fresh b) (And.intro (SS.out.2.2.1.fresh b) (SS.out.2.2.2.fresh b))))
         replace BB := Lib.hid (BB.out.tr b)
         replace KK := Lib.hid (KK.out.fresh b)
         clear b
         go_wp2
         refine And.intro SS.out ?_
         refine pl_heavy (i := 6) rfl (by kernel_rfl) ?_
         go_wp2_with fail
         refine (rleaf_any w22 C hCl.out).mono ?_
         rintro e w23 ⟨rfl, b⟩
         replace SS := Lib.hid (And.intro (SS.out.1.fresh b) (And.intro (SS.out.2.1.fresh b) (And.intro (SS.out.2.2.1.fresh b) (SS.out.2.2.2.fresh b))))
         replace BB := Lib.hid (BB.out.tr b)
         replace KK := Lib.hid (KK.out.fresh b)
         clear b
         go_wp2
         refine And.intro SS.out ?_
         refine pl_heavy (i := 7) rfl (by kernel_rfl) ?_
         go_wp2_with fail
         refine (rknot_any w23 (knotB (leafB A) (leafB B)) (leafB C) (knotB_length _ _) (leafB_length C)).mono ?_
         rintro e w24 ⟨rfl, b⟩
         replace SS := Lib.hid (And.intro (SS.out.1.fresh b) (And.intro (SS.out.2.1.fresh b) (And.intro (SS.out.2.2.1.fresh b) (SS.out.2.2.2.fresh b))))
         replace BB := Lib.hid (BB.out.tr b)
         replace KK := Lib.hid (KK.out.fresh b)
         clear b
         go_wp2
         refine And.intro SS.out ?_
         refine pl_heavy (i := 9) rfl (by kernel_rfl) ?_
         refine wpList_store_var rfl 24 (.tmp 5) (.tmp 18) rfl O _ rfl _ (bvs (knotB (knotB (leafB A) (leafB B)) (leafB C))) rfl KK.out (by simp [knotB_length]) (bvs_one _) (by rw [bvs_length, knotB_length]; exact infoHash) ?_
         intro wz kz oz
         have SZ := Lib.hid (And.intro (SS.out.1.only oz (by have := OO.out; omega)) (And.intro (SS.out.2.1.only oz (by have := OO.out; omega)) (And.intro (SS.out.2.2.1.only oz (by have := OO.out; omega)) (SS.out.2.2.2.only oz (by have := OO.out; omega)))))
         have TZ := Lib.hid (And.intro SZ.out (show CB wz 24 O (bvs (knotB (knotB (leafB A) (leafB B)) (leafB C))) from kz))
         have BZ : Hid (Below w.heap.size w wz) := Lib.hid (Below.only BB.out oz OO.out.1)
         clear kz oz
         go_wp2
         refine And.intro SZ.out ?_
         refine pl_done (by kernel_rfl) ?_
         exact HREST.out wz O ⟨SZ.out, TZ.out.2, BZ.out⟩
     · have OWw10 : w.heap.size ≤ w10.heap.size := BB.out.size
       have OSw10 : D < w10.heap.size ∧ w.heap.size + 1 + 1 < w10.heap.size := ⟨SS.out.2.2.2.lt, SS.out.2.2.1.lt⟩
       go_wp2_with fail
       obtain ⟨w25, h, k, b, s⟩ := alloc_cb w10 24 (bvs (List.replicate 32 0))
       have SS2 : Hid (CB w25 24 w.heap.size (bvs A) ∧ CB w25 24 (w.heap.size + 1) (bvs B) ∧ CB w25 24 (w.heap.size + 1 + 1) (bvs C) ∧ CB w25 24 D (bvs (leafB A))) := Lib.hid (And.intro (SS.out.1.fresh b) (And.intro (SS.out.2.1.fresh b) (And.intro (SS.out.2.2.1.fresh b) (SS.out.2.2.2.fresh b))))
       refine And.intro (by have SS3 := SS2.out; rw [h] at SS3; exact SS3) ?_
       change wpAnyH _ _ _ _ _ _ _ _ (w10.alloc (.cells (bvs (List.replicate 32 0)).toArray 24))
       rw [← h]
       replace SS := SS2
       replace BB := Lib.hid (BB.out.tr b)
       obtain ⟨O, hO⟩ : ∃ O, O = w10.heap.size := ⟨_, rfl⟩
       rw [← hO] at k ⊢
       have KK := Lib.hid k
       have OO : Hid (w.heap.size ≤ O ∧ (D < O ∧ w.heap.size + 1 + 1 < O)) := Lib.hid ⟨by rw [hO]; exact OWw10, by rw [hO]; exact OSw10⟩
       clear SS2 h k b s hO
       refine pl_heavy (i := 3) rfl (by kernel_rfl) ?_
       go_wp2_with fail
       refine (rleaf_any w25 B hBl.out).mono ?_
       rintro e w26 ⟨rfl, b⟩
       replace SS := Lib.hid (And.intro (SS.out.1.fresh b) (And.intro (SS.out.2.1.fresh b) (And.intro (SS.out.2.2.1.fresh b) (SS.out.2.2.2.fresh b))))
       replace BB := Lib.hid (BB.out.tr b)
       replace KK := Lib.hid (KK.out.fresh b)
       clear b
       go_wp2
       refine And.intro SS.out ?_
       refine pl_heavy (i := 4) rfl (by kernel_rfl) ?_
       go_wp2_with fail
       refine (rknot_any w26 (leafB A) (leafB B) (leafB_length A) (leafB_length B)).mono ?_
       rintro e w27 ⟨rfl, b⟩
       replace SS := Lib.hid (And.intro (SS.out.1.fresh b) (And.intro (SS.out.2.1.fresh b) (And.intro (SS.out.2.2.1.fresh b) (SS.out.2.2.2.fresh b))))
       replace BB := Lib.hid (BB.out.tr b)
       replace KK := Lib.hid (KK.out.fresh b)
       clear b
       go_wp2
       refine And.intro SS.out ?_
       refine pl_heavy (i := 6) rfl (by kernel_rfl) ?_
       go_wp2_with fail
       refine (rleaf_any w27 C hCl.out).mono ?_
       rintro e w28 ⟨rfl, b⟩
       replace SS := Lib.hid (And.intro (SS.out.1.fresh b) (And.intro (SS.out.2.1.fresh b) (And.intro (SS.out.2.2.1.fresh b) (SS.out.2.2.2.fresh b))))
       replace BB := Lib.hid (BB.out.tr b)
       replace KK := Lib.hid (KK.out.fresh b)
       clear b
       go_wp2
       refine And.intro SS.out ?_
       refine pl_heavy (i := 7) rfl (by kernel_rfl) ?_
       go_wp2_with fail
       refine (rknot_any w28 (knotB (leafB A) (leafB B)) (leafB C) (knotB_length _ _) (leafB_length C)).mono ?_
       rintro e w29 ⟨rfl, b⟩
       replace SS := Lib.hid (And.intro (SS.out.1.fresh b) (And.intro (SS.out.2.1.fresh b) (And.intro (SS.out.2.2.1.fresh b) (SS.out.2.2.2.fresh b))))
       replace BB := Lib.hid (BB.out.tr b)
       replace KK := Lib.hid (KK.out.fresh b)
       clear b
       go_wp2
       refine And.intro SS.out ?_
       refine pl_heavy (i := 9) rfl (by kernel_rfl) ?_
       refine wpList_store_var rfl 24 (.tmp 5) (.tmp 18) rfl O _ rfl _ (bvs (knotB (knotB (leafB A) (leafB B)) (leafB C))) rfl KK.out (by simp [knotB_length]) (bvs_one _) (by rw [bvs_length, knotB_length]; exact infoHash) ?_
       intro wz kz oz
       have SZ := Lib.hid (And.intro (SS.out.1.only oz (by have := OO.out; omega)) (And.intro (SS.out.2.1.only oz (by have := OO.out; omega)) (And.intro (SS.out.2.2.1.only oz (by have := OO.out; omega)) (SS.out.2.2.2.only oz (by have := OO.out; omega)))))
       have TZ := Lib.hid (And.intro SZ.out (show CB wz 24 O (bvs (knotB (knotB (leafB A) (leafB B)) (leafB C))) from kz))
       have BZ : Hid (Below w.heap.size w wz) := Lib.hid (Below.only BB.out oz OO.out.1)
       clear kz oz
       go_wp2
       refine And.intro SZ.out ?_
       refine pl_done (by kernel_rfl) ?_
       exact HREST.out wz O ⟨SZ.out, TZ.out.2, BZ.out⟩
   · have OWw9 : w.heap.size ≤ w9.heap.size := BB.out.size
     have OSw9 : D < w9.heap.size ∧ w.heap.size + 1 + 1 < w9.heap.size := ⟨SS.out.2.2.2.lt, SS.out.2.2.1.lt⟩
     go_wp2_with fail
     obtain ⟨w30, h, k, b, s⟩ := alloc_cb w9 24 (bvs (List.replicate 32 0))
     have SS2 : Hid (CB w30 24 w.heap.size (bvs A) ∧ CB w30 24 (w.heap.size + 1) (bvs B) ∧ CB w30 24 (w.heap.size + 1 + 1) (bvs C) ∧ CB w30 24 D (bvs (leafB A))) := Lib.hid (And.intro (SS.out.1.fresh b) (And.intro (SS.out.2.1.fresh b) (And.intro (SS.out.2.2.1.fresh b) (SS.out.2.2.2.fresh b))))
     refine And.intro (by have SS3 := SS2.out; rw [h] at SS3; exact SS3) ?_
     change wpAnyH _ _ _ _ _ _ _ _ (w9.alloc (.cells (bvs (List.replicate 32 0)).toArray 24))
     rw [← h]
     replace SS := SS2
     replace BB := Lib.hid (BB.out.tr b)
     obtain ⟨O, hO⟩ : ∃ O, O = w9.heap.size := ⟨_, rfl⟩
     rw [← hO] at k ⊢
     have KK := Lib.hid k
     have OO : Hid (w.heap.size ≤ O ∧ (D < O ∧ w.heap.size + 1 + 1 < O)) := Lib.hid ⟨by rw [hO]; exact OWw9, by rw [hO]; exact OSw9⟩
     clear SS2 h k b s hO
     refine pl_heavy (i := 1) rfl (by kernel_rfl) ?_
     go_wp2_with fail
     refine (rleaf_any w30 A hAl.out).mono ?_
     rintro e w31 ⟨rfl, b⟩
     replace SS := Lib.hid (And.intro (SS.out.1.fresh b) (And.intro (SS.out.2.1.fresh b) (And.intro (SS.out.2.2.1.fresh b) (SS.out.2.2.2.fresh b))))
     replace BB := Lib.hid (BB.out.tr b)
     replace KK := Lib.hid (KK.out.fresh b)
     clear b
     go_wp2
     refine And.intro SS.out ?_
     refine pl_heavy (i := 3) rfl (by kernel_rfl) ?_
     go_wp2_with fail
     refine (rleaf_any w31 B hBl.out).mono ?_
     rintro e w32 ⟨rfl, b⟩
     replace SS := Lib.hid (And.intro (SS.out.1.fresh b) (And.intro (SS.out.2.1.fresh b) (And.intro (SS.out.2.2.1.fresh b) (SS.out.2.2.2.fresh b))))
     replace BB := Lib.hid (BB.out.tr b)
     replace KK := Lib.hid (KK.out.fresh b)
     clear b
     go_wp2
     refine And.intro SS.out ?_
     refine pl_heavy (i := 4) rfl (by kernel_rfl) ?_
     go_wp2_with fail
     refine (rknot_any w32 (leafB A) (leafB B) (leafB_length A) (leafB_length B)).mono ?_
     rintro e w33 ⟨rfl, b⟩
     replace SS := Lib.hid (And.intro (SS.out.1.fresh b) (And.intro (SS.out.2.1.fresh b) (And.intro (SS.out.2.2.1.fresh b) (SS.out.2.2.2.fresh b))))
     replace BB := Lib.hid (BB.out.tr b)
     replace KK := Lib.hid (KK.out.fresh b)
     clear b
     go_wp2
     refine And.intro SS.out ?_
     refine pl_heavy (i := 6) rfl (by kernel_rfl) ?_
     go_wp2_with fail
     refine (rleaf_any w33 C hCl.out).mono ?_
     rintro e w34 ⟨rfl, b⟩
     replace SS := Lib.hid (And.intro (SS.out.1.fresh b) (And.intro (SS.out.2.1.fresh b) (And.intro (SS.out.2.2.1.fresh b) (SS.out.2.2.2.fresh b))))
     replace BB := Lib.hid (BB.out.tr b)
     replace KK := Lib.hid (KK.out.fresh b)
     clear b
     go_wp2
     refine And.intro SS.out ?_
     refine pl_heavy (i := 7) rfl (by kernel_rfl) ?_
     go_wp2_with fail
     refine (rknot_any w34 (knotB (leafB A) (leafB B)) (leafB C) (knotB_length _ _) (leafB_length C)).mono ?_
     rintro e w35 ⟨rfl, b⟩
     replace SS := Lib.hid (And.intro (SS.out.1.fresh b) (And.intro (SS.out.2.1.fresh b) (And.intro (SS.out.2.2.1.fresh b) (SS.out.2.2.2.fresh b))))
     replace BB := Lib.hid (BB.out.tr b)
     replace KK := Lib.hid (KK.out.fresh b)
     clear b
     go_wp2
     refine And.intro SS.out ?_
     refine pl_heavy (i := 9) rfl (by kernel_rfl) ?_
     refine wpList_store_var rfl 24 (.tmp 5) (.tmp 18) rfl O _ rfl _ (bvs (knotB (knotB (leafB A) (leafB B)) (leafB C))) rfl KK.out (by simp [knotB_length]) (bvs_one _) (by rw [bvs_length, knotB_length]; exact infoHash) ?_
     intro wz kz oz
     have SZ := Lib.hid (And.intro (SS.out.1.only oz (by have := OO.out; omega)) (And.intro (SS.out.2.1.only oz (by have := OO.out; omega)) (And.intro (SS.out.2.2.1.only oz (by have := OO.out; omega)) (SS.out.2.2.2.only oz (by have := OO.out; omega)))))
     have TZ := Lib.hid (And.intro SZ.out (show CB wz 24 O (bvs (knotB (knotB (leafB A) (leafB B)) (leafB C))) from kz))
     have BZ : Hid (Below w.heap.size w wz) := Lib.hid (Below.only BB.out oz OO.out.1)
     clear kz oz
     go_wp2
     refine And.intro SZ.out ?_
     refine pl_done (by kernel_rfl) ?_
     exact HREST.out wz O ⟨SZ.out, TZ.out.2, BZ.out⟩
  case rest =>
   rintro wz O ⟨SZ, KZ, BZ⟩
   have hl1 : Hid ((topB 1 (leafB A)).length = 32) := Lib.hid (topB_length _ _)
   have hl3 : Hid ((topB 3 (knotB (knotB (leafB A) (leafB B)) (leafB C))).length = 32) := Lib.hid (topB_length _ _)
   have hr1 : Hid (rootB [A] = topB 1 (leafB A)) := Lib.hid (rootB_one A)
   have hr3 : Hid (rootB [A, B, C] = topB 3 (knotB (knotB (leafB A) (leafB B)) (leafB C))) := Lib.hid (rootB_three A B C)
   obtain ⟨T3, hT3⟩ : ∃ T, T = knotB (knotB (leafB A) (leafB B)) (leafB C) := ⟨_, rfl⟩
   have hT3l : Hid (T3.length = 32) := Lib.hid (by rw [hT3]; exact knotB_length _ _)
   rw [← hT3] at KZ hl3 hr3 ⊢
   clear hT3
   have SY : Hid (CB wz.drew 24 w.heap.size (bvs A) ∧ CB wz.drew 24 (w.heap.size + 1) (bvs B) ∧ CB wz.drew 24 (w.heap.size + 1 + 1) (bvs C) ∧ CB wz.drew 24 D (bvs (leafB A)) ∧ CB wz.drew 24 O (bvs T3)) := Lib.hid ⟨SZ.1, SZ.2.1, SZ.2.2.1, SZ.2.2.2, KZ⟩
   have BY : Hid (Below w.heap.size w wz.drew) := Lib.hid BZ.drew
   clear SZ KZ BZ SS BB
   go_wp2_with fail
   refine pl_start 17 rfl (fun w' => CB w' 24 w.heap.size (bvs A) ∧ CB w' 24 (w.heap.size + 1) (bvs B) ∧ CB w' 24 (w.heap.size + 1 + 1) (bvs C) ∧ CB w' 24 D (bvs (leafB A)) ∧ CB w' 24 O (bvs T3)) (by kernel_rfl) ?_
   obtain ⟨v0, hv0⟩ : ∃ v0, v0 = wz.drew := ⟨_, rfl⟩
   rw [← hv0] at SY BY ⊢
   clear hv0
   refine pl_take (i := 0) 19 rfl rfl rfl (by kernel_rfl) (by kernel_rfl) (by kernel_rfl) (by simp [Act.put]) SY.out ?_
   apply Exists.intro
   refine And.intro (fun w' hS' => ?_) ?_
   · refine wpList_load_agg rfl 24 (.tmp 1) rfl (⟨w.heap.size, 0, none⟩) rfl (bvs A) _ ((At.block hS'.1).load) Try.underlying24 rfl (by rw [bvs_length, hAl.out]; exact infoHash) ?_
     go_wp2
     exact ⟨trivial, rfl⟩
   refine pl_take (i := 3) 22 rfl rfl rfl (by kernel_rfl) (by kernel_rfl) (by kernel_rfl) (by simp [Act.put]) SY.out ?_
   apply Exists.intro
   refine And.intro (fun w' hS' => ?_) ?_
   · go_wp2
     exact ⟨trivial, rfl⟩
   refine pl_heavy (i := 1) rfl (by kernel_rfl) ?_
   refine wpList_buildH rfl 1 _ rfl ([A]) (H32.one hAl.out) rfl (by decide) (by decide) (by kernel_rfl) ?_
   intro v1 p1 b1 s1
   have SY1 := Lib.hid (And.intro (SY.out.1.fresh b1) (And.intro (SY.out.2.1.fresh b1) (And.intro (SY.out.2.2.1.fresh b1) (And.intro (SY.out.2.2.2.1.fresh b1) (SY.out.2.2.2.2.fresh b1)))))
   have BY1 := Lib.hid (BY.out.tr b1)
   have P1 := Lib.hid p1
   clear p1 b1 s1 SY BY
   go_wp2
   refine And.intro SY1.out ?_
   refine pl_heavy (i := 2) rfl (by kernel_rfl) ?_
   go_wp2_with fail
   refine (mroot_any v1 _ [A] P1.out (by simp)).mono ?_
   rintro e v2 ⟨rfl, b2⟩
   rw [hr1.out]
   have SY2 := Lib.hid (And.intro (SY1.out.1.fresh b2) (And.intro (SY1.out.2.1.fresh b2) (And.intro (SY1.out.2.2.1.fresh b2) (And.intro (SY1.out.2.2.2.1.fresh b2) (SY1.out.2.2.2.2.fresh b2)))))
   have BY2 := Lib.hid (BY1.out.tr b2)
   clear b2 SY1 BY1 P1
   go_wp2
   refine And.intro SY2.out ?_
   refine pl_heavy (i := 4) rfl (by kernel_rfl) ?_
   go_wp2_with fail
   refine (rtop_any v2 1 (.slice (some ⟨D, 0, none⟩) 32 32) (leafB A) (by omega) (SY2.out.2.2.2.1.rd32 (leafB_length A)) (by rw [leafB_length]; decide)).mono ?_
   rintro e v3 ⟨rfl, b3⟩
   have SY3 := Lib.hid (And.intro (SY2.out.1.fresh b3) (And.intro (SY2.out.2.1.fresh b3) (And.intro (SY2.out.2.2.1.fresh b3) (And.intro (SY2.out.2.2.2.1.fresh b3) (SY2.out.2.2.2.2.fresh b3)))))
   have BY3 := Lib.hid (BY2.out.tr b3)
   clear b3 SY2 BY2
   go_wp2
   refine And.intro SY3.out ?_
   refine pl_take (i := 5) 24 rfl rfl rfl (by kernel_rfl) (by kernel_rfl) (by kernel_rfl) (by simp [Act.put]) SY3.out ?_
   apply Exists.intro
   refine And.intro (fun w' hS' => ?_) ?_
   · refine wpList_bin rfl .eql 24 24 (.tmp 21) (.tmp 23) rfl (.bool true) (eqGuard_agg _ _ _ _ _ _ _ (by kernel_rfl)) (hash_eq_refl w' _ hl1.out) ?_
     clear hS'
     go_wp2
     exact ⟨trivial, rfl⟩
   refine pl_take (i := 6) 25 rfl rfl rfl (by kernel_rfl) (by kernel_rfl) (by kernel_rfl) (by simp [Act.put]) SY3.out ?_
   apply Exists.intro
   refine And.intro (fun w' hS' => ?_) ?_
   · go_wp2
     exact ⟨trivial, rfl⟩
   refine pl_take (i := 7) 26 rfl rfl rfl (by kernel_rfl) (by kernel_rfl) (by kernel_rfl) (by simp [Act.put]) SY3.out ?_
   apply Exists.intro
   refine And.intro (fun w' hS' => ?_) ?_
   · refine wpList_unguard' rfl ?_
     refine wpList_load_agg rfl 24 (.tmp 1) rfl (⟨w.heap.size, 0, none⟩) rfl (bvs A) _ ((At.block hS'.1).load) Try.underlying24 rfl (by rw [bvs_length, hAl.out]; exact infoHash) ?_
     clear hS'
     go_wp2
     exact ⟨trivial, rfl⟩
   refine pl_take (i := 8) 27 rfl rfl rfl (by kernel_rfl) (by kernel_rfl) (by kernel_rfl) (by simp [Act.put]) SY3.out ?_
   apply Exists.intro
   refine And.intro (fun w' hS' => ?_) ?_
   · refine wpList_unguard' rfl ?_
     refine wpList_load_agg rfl 24 (.tmp 2) rfl (⟨w.heap.size + 1, 0, none⟩) rfl (bvs B) _ ((At.block hS'.2.1).load) Try.underlying24 rfl (by rw [bvs_length, hBl.out]; exact infoHash) ?_
     clear hS'
     go_wp2
     exact ⟨trivial, rfl⟩
   refine pl_take (i := 9) 28 rfl rfl rfl (by kernel_rfl) (by kernel_rfl) (by kernel_rfl) (by simp [Act.put]) SY3.out ?_
   apply Exists.intro
   refine And.intro (fun w' hS' => ?_) ?_
   · refine wpList_unguard' rfl ?_
     refine wpList_load_agg rfl 24 (.tmp 3) rfl (⟨w.heap.size + 1 + 1, 0, none⟩) rfl (bvs C) _ ((At.block hS'.2.2.1).load) Try.underlying24 rfl (by rw [bvs_length, hCl.out]; exact infoHash) ?_
     clear hS'
     go_wp2
     exact ⟨trivial, rfl⟩
   refine pl_take (i := 12) 31 rfl rfl rfl (by kernel_rfl) (by kernel_rfl) (by kernel_rfl) (by simp [Act.put]) SY3.out ?_
   apply Exists.intro
   refine And.intro (fun w' hS' => ?_) ?_
   · go_wp2
     exact ⟨trivial, rfl⟩
   refine pl_heavy (i := 10) rfl (by kernel_rfl) ?_
   refine wpList_unguard' rfl ?_
   refine wpList_buildH rfl 3 _ rfl ([A, B, C]) (fun x hx => by simp at hx; rcases hx with rfl | rfl | rfl; exact hAl.out; exact hBl.out; exact hCl.out) rfl (by decide) (by decide) (by kernel_rfl) ?_
   intro v4 p4 b4 s4
   have SY4 := Lib.hid (And.intro (SY3.out.1.fresh b4) (And.intro (SY3.out.2.1.fresh b4) (And.intro (SY3.out.2.2.1.fresh b4) (And.intro (SY3.out.2.2.2.1.fresh b4) (SY3.out.2.2.2.2.fresh b4)))))
   have BY4 := Lib.hid (BY3.out.tr b4)
   have P4 := Lib.hid p4
   clear p4 b4 s4 SY3 BY3
   go_wp2
   refine And.intro SY4.out ?_
   refine pl_heavy (i := 11) rfl (by kernel_rfl) ?_
   go_wp2_with fail
   refine (mroot_any v4 _ [A, B, C] P4.out (by simp)).mono ?_
   rintro e v5 ⟨rfl, b5⟩
   rw [hr3.out]
   have SY5 := Lib.hid (And.intro (SY4.out.1.fresh b5) (And.intro (SY4.out.2.1.fresh b5) (And.intro (SY4.out.2.2.1.fresh b5) (And.intro (SY4.out.2.2.2.1.fresh b5) (SY4.out.2.2.2.2.fresh b5)))))
   have BY5 := Lib.hid (BY4.out.tr b5)
   clear b5 SY4 BY4 P4
   go_wp2
   refine And.intro SY5.out ?_
   refine pl_heavy (i := 13) rfl (by kernel_rfl) ?_
   go_wp2_with fail
   refine (rtop_any v5 3 (.slice (some ⟨O, 0, none⟩) 32 32) T3 (by omega) (SY5.out.2.2.2.2.rd32 hT3l.out) (by rw [hT3l.out]; decide)).mono ?_
   rintro e v6 ⟨rfl, b6⟩
   have SY6 := Lib.hid (And.intro (SY5.out.1.fresh b6) (And.intro (SY5.out.2.1.fresh b6) (And.intro (SY5.out.2.2.1.fresh b6) (And.intro (SY5.out.2.2.2.1.fresh b6) (SY5.out.2.2.2.2.fresh b6)))))
   have BY6 := Lib.hid (BY5.out.tr b6)
   clear b6 SY5 BY5
   go_wp2
   refine And.intro SY6.out ?_
   refine pl_take (i := 14) 33 rfl rfl rfl (by kernel_rfl) (by kernel_rfl) (by kernel_rfl) (by simp [Act.put]) SY6.out ?_
   apply Exists.intro
   refine And.intro (fun w' hS' => ?_) ?_
   · refine wpList_unguard' rfl ?_
     refine wpList_bin rfl .eql 24 24 (.tmp 30) (.tmp 32) rfl (.bool true) (eqGuard_agg _ _ _ _ _ _ _ (by kernel_rfl)) (hash_eq_refl w' _ hl3.out) ?_
     clear hS'
     go_wp2
     exact ⟨trivial, rfl⟩
   refine pl_take (i := 15) 34 rfl rfl rfl (by kernel_rfl) (by kernel_rfl) (by kernel_rfl) (by simp [Act.put]) SY6.out ?_
   apply Exists.intro
   refine And.intro (fun w' hS' => ?_) ?_
   · go_wp2
     exact ⟨trivial, rfl⟩
   refine pl_heavy (i := 16) rfl (by kernel_rfl) ?_
   go_wp2
   refine And.intro SY6.out ?_
   refine pl_done (by kernel_rfl) ?_
   go_wp2
   go_ret
   exact ⟨rfl, BY6.out⟩

end Go.Proofs.Ytbabjepblakboaa
